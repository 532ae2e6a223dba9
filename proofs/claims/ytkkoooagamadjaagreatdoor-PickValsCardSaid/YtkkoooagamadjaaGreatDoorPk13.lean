/- slices.Insert of one element, at []int and at []api.Class, into a slice that is full and owned. A block of cells of whatever shape: what it holds, and that it stays. Rows of unlike kinds beside each other. -/
import Derived.Test.YtkkoooagamadjaaGreatDoorPk05
import Derived.Test.YtkkoooagamadjaaGreatDoorPk10
import Derived.Test.YtkkoooagamadjaaGreatDoorPk01

namespace Go.Proofs.YtkkoooagamadjaaGreatDoor
open Go.RowKit

theorem run_grow_zeros {P : Program} (w : World) (t tn ty e : TypeId) (i : TypeInfo) (z : Value) (ht : P.underlying t = some (.slice e)) (htn : P.underlying tn = some (.int .i64)) (hi : P.info? e = some i) (hz : i.zero = some z)
    (b : Addr) (sLen sCap n : Nat) (olds : List Value) (hlo : olds.length = sLen * i.size) (holds : ∀ j v, olds[j]? = some v → w.cell? (b.add j) = some v)
    (hg : sCap < sLen + n) (h0 : 0 < n) (hs : 0 < i.size) (h63 : sLen + n ≤ 9223372036854775807) (hfit : Builtin.nextslicecap (sLen + n) sCap * i.bytes ≤ 281474976710656) (h48 : n * i.bytes ≤ 281474976710656) :
    (Builtin.append_ #[t, tn] ty #[.slice (some b) sLen sCap, .int .i64 n]).run P w =
      .ok (.slice (some ⟨w.heap.size, 0, none⟩) (sLen + n) (grownCap w (sLen + n) sCap e))
        (w.drew.alloc (.cells (olds.toArray ++ Builtin.zeroCells z.cells n ++ Builtin.zeroCells z.cells (grownCap w (sLen + n) sCap e - (sLen + n))) e)) := by
  have hn : ¬ (sLen + n ≤ sCap) := by omega
  have hwr : IntKind.i64.wrap (n : Int) = n := by rw [IntKind.wrap_i64]; omega
  have h63' : ¬ (9223372036854775807 < ((sLen : Int) + (n : Int))) := by omega
  have h48' : ¬ (281474976710656 < Builtin.nextslicecap (sLen + n) sCap * i.bytes) := by omega
  have h48i : ¬ (281474976710656 < (n : Int) * (i.bytes : Int)) := by
    rw [← Int.natCast_mul]
    omega
  have hneg : ¬ ((n : Int) < 0) := by omega
  have hnm : ¬ (n * i.size = 0) := by
    rw [Nat.mul_eq_zero]
    omega
  have hfo := run_firstCells_some (P := P) w.drew i.size sLen b sLen sCap olds hlo (by simpa using holds)
  simp [Builtin.append_, run_underlying ht, run_underlying htn, sizeOf, typeInfo, zeroValue, hi, hz, Builtin.lenOf, asInt, asIntOf, hwr, hneg, h48i, hnm, hn, h63', h48', Question.forced, hfo, newRow, grownCap]

theorem grow_zeros {P : Program} {w : World} {base g n cap : Nat} {xs : List Value} (t tn ty e : TypeId) (z : Value) (size bytes : Nat) (ht : P.underlying t = some (.slice e)) (htn : P.underlying tn = some (.int .i64)) (hinfo : (P.info? e).map (fun i => (i.zero, i.size, i.bytes)) = some (some z, size, bytes))
    (hzs : z.cells.size = size) (hsz : 0 < size) (hown : w.ownsRow base e size (.slice (some ⟨g, 0, none⟩) n cap) n xs) (i k : Nat) (hin : i ≤ n) (hg : cap < i + k) (hk : 0 < k) (hb : (i + k) * bytes ≤ 140737488355328) (hm : i + k ≤ maxLen) :
    ∃ cap' w' zs, (Builtin.append_ #[t, tn] ty #[.slice (some ⟨g, 0, none⟩) i cap, .int .i64 k]).run P w = .ok (.slice (some ⟨w.heap.size, 0, none⟩) (i + k) cap') w' ∧
      w'.ownsRow w.heap.size e size (.slice (some ⟨w.heap.size, 0, none⟩) (i + k) cap') (i + k) (xs.take (i * size) ++ zs) ∧ zs.length = k * size ∧ Below w.heap.size w w' ∧ w'.heap.size = w.heap.size + 1 ∧ i + k ≤ cap' := by
  obtain ⟨ti, hi, hz0, hz1, hz2⟩ := info_parts hinfo
  subst hz1; subst hz2
  have hlen : xs.length = n * ti.size := hown.1
  have hmul : i * ti.size ≤ n * ti.size := Nat.mul_le_mul_right _ hin
  have ho : (xs.take (i * ti.size)).length = i * ti.size := by rw [List.length_take]; omega
  have hold : ∀ j v, (xs.take (i * ti.size))[j]? = some v → w.cell? ((⟨g, 0, none⟩ : Addr).add j) = some v := by
    intro j v hv
    rw [List.getElem?_take] at hv
    split at hv
    · exact hown.cells (g := g) rfl j v hv
    · cases hv
  have hmaxs : i + k ≤ 9223372036854775807 := by unfold maxLen at hm; omega
  have hkb : k * ti.bytes ≤ (i + k) * ti.bytes := Nat.mul_le_mul_right _ (by omega)
  have hr := run_grow_zeros (P := P) w t tn ty e ti z ht htn hi hz0 ⟨g, 0, none⟩ i cap k (xs.take (i * ti.size)) ho hold hg hk hsz hmaxs (growslice_fits hg hb) (by omega)
  have hge := grownCap_ge w (i + k) cap e
  have hle := grownCap_le_maxLen w (i + k) cap e hm
  refine ⟨_, _, (Builtin.zeroCells z.cells k).toList, hr, ⟨?_, .inr ⟨w.heap.size, _, _, rfl, Nat.le_refl _, World.alloc_heap_new w.drew _, hge, hle, ?_, ?_⟩⟩, ?_, ?_, ?_, hge⟩
  · rw [List.length_append, ho, Array.length_toList, size_zeroCells, hzs, Nat.add_mul]
  · simp only [Array.size_append, List.size_toArray, size_zeroCells, hzs, ho, ← Nat.add_mul]
    congr 1
    omega
  · have e1 : (xs.take (i * ti.size) ++ (Builtin.zeroCells z.cells k).toList).length = (i + k) * ti.size := by rw [List.length_append, ho, Array.length_toList, size_zeroCells, hzs, Nat.add_mul]
    simp only [Array.toList_append, List.append_assoc]
    rw [← List.append_assoc, ← e1]
    exact List.take_left
  · rw [Array.length_toList, size_zeroCells, hzs]
  · exact ((Below.refl _ w).drew).alloc (Nat.le_refl _) _
  · simp [World.size_alloc, show ∀ w : World, w.drew.heap.size = w.heap.size from fun _ => rfl]

theorem step_copy_known {P : Program} {ops : Array Oper} {o : Oper} {a : Act} {w : World} {K : Act → World → Prop} {Q : Exit → Act → World → Prop} {E : Prop}
    (hg : o.guard = none) (s x : Operand) (t u : TypeId) (hop : o.op = Op.call { callee := Callee.builtin Builtin.copy, args := #[s, x], argTypes := #[t, u] })
    (vs vx : Value) (hs : a.eval s = vs) (hx : a.eval x = vx) (v' : Value) (w' : World) (hr : (Builtin.copy_ #[t, u] o.type #[vs, vx]).run P w = .ok v' w') (hK : K (a.put o.dst v') w') :
    if Region.wanted o (yielded ops a.tmps) = true then Oper.wp P o a w K Q else E := by
  have hw : Region.wanted o (yielded ops a.tmps) = true := by simp [Region.wanted, hg]
  rw [if_pos hw]
  unfold Oper.wp
  simp [execOp, hop, resolve, invoke, builtin, hs, hx, hr, Result.andThen]
  exact hK

/-- append where there is no room: a row of its own -/
theorem grow_src {P : Program} {w : World} {base g n cap b o m sc : Nat} {xs news : List Value} (t ty e : TypeId) (z : Value) (size bytes : Nat) (ht : P.underlying t = some (.slice e)) (hinfo : (P.info? e).map (fun i => (i.zero, i.size, i.bytes)) = some (some z, size, bytes))
    (hzs : z.cells.size = size) (hown : w.ownsRow base e size (.slice (some ⟨g, 0, none⟩) n cap) n xs) (i : Nat) (hin : i ≤ n) (hg : cap < i + m) (hb : (i + m) * bytes ≤ 140737488355328) (hm : i + m ≤ maxLen)
    (hnl : news.length = m * size) (hnews : ∀ j u, news[j]? = some u → w.cell? ⟨b, o + j, none⟩ = some u) :
    ∃ cap' w', (Builtin.append_ #[t, t] ty #[.slice (some ⟨g, 0, none⟩) i cap, .slice (some ⟨b, o, none⟩) m sc]).run P w = .ok (.slice (some ⟨w.heap.size, 0, none⟩) (i + m) cap') w' ∧
      w'.ownsRow w.heap.size e size (.slice (some ⟨w.heap.size, 0, none⟩) (i + m) cap') (i + m) (xs.take (i * size) ++ news) ∧ Below w.heap.size w w' ∧ i + m ≤ cap' := by
  obtain ⟨ti, hi, hz0, hz1, hz2⟩ := info_parts hinfo
  subst hz1; subst hz2
  have hlen : xs.length = n * ti.size := hown.1
  have hmul : i * ti.size ≤ n * ti.size := Nat.mul_le_mul_right _ hin
  have ho : (xs.take (i * ti.size)).length = i * ti.size := by rw [List.length_take]; omega
  have hold : ∀ j v, (xs.take (i * ti.size))[j]? = some v → w.cell? ((⟨g, 0, none⟩ : Addr).add j) = some v := by
    intro j v hv
    rw [List.getElem?_take] at hv
    split at hv
    · exact hown.cells (g := g) rfl j v hv
    · cases hv
  have hmaxs : i + m ≤ 9223372036854775807 := by unfold maxLen at hm; omega
  have hr := run_append_grow (P := P) w t ty e ti z ht hi hz0 ⟨g, 0, none⟩ i cap (xs.take (i * ti.size)) ho hold ⟨b, o, none⟩ m sc news hnl (fun j v hv => by rw [Addr.add_lit]; exact hnews j v hv) hg (by omega) (growslice_fits hg hb)
  have hge := grownCap_ge w (i + m) cap e
  have hle := grownCap_le_maxLen w (i + m) cap e hm
  have e1 : (xs.take (i * ti.size) ++ news).length = (i + m) * ti.size := by rw [List.length_append, ho, hnl, Nat.add_mul]
  refine ⟨_, _, hr, ⟨e1, .inr ⟨w.heap.size, _, _, rfl, Nat.le_refl _, World.alloc_heap_new w.drew _, hge, hle, ?_, ?_⟩⟩, ?_, hge⟩
  · simp only [Array.size_append, List.size_toArray, size_zeroCells, hzs, ho, hnl, ← Nat.add_mul]
    congr 1
    omega
  · simp only [Array.toList_append, List.append_assoc]
    rw [← List.append_assoc, ← e1]
    exact List.take_left
  · exact ((Below.refl _ w).drew).alloc (Nat.le_refl _) _

/-- copy of as many elements as there is room for both -/
theorem run_copy_at {P : Program} (w : World) (dT sT ty elem : TypeId) (k g off n dCap m sCap c : Nat) (a : Addr) (cs : List Value) (hu : P.underlying dT = some (.slice elem)) (hs : (P.info? elem).map (·.size) = some k) (hc0 : m.min n = c) (hn : cs.length = c * k)
    (hsrc : ∀ j v, cs[j]? = some v → w.cell? (a.add j) = some v) (hc : ∀ j, j < cs.length → (w.cell? ⟨g, off + j, none⟩).isSome = true) (hf : ∀ j, j < cs.length → w.frozen? ⟨g, off + j, none⟩ = false) (h1 : ∀ v ∈ cs, v.oneCell' = true) :
    (Builtin.copy_ #[dT, sT] ty #[.slice (some ⟨g, off, none⟩) n dCap, .slice (some a) m sCap]).run P w = .ok (goInt c) (w.setCells g off cs) := by
  have hl := run_loadCells_list (P := P) w a cs hsrc
  have hst := run_storeCells_cells (P := P) g off cs 0 w (by simpa using hc) (by simpa using hf) h1
  simp only [Nat.add_zero] at hst
  cases hq : P.info? elem with
  | none => simp [hq] at hs
  | some i =>
    have hi : i.size = k := by simpa [hq] using hs
    simp [Builtin.copy_, run_underlying hu, Builtin.lenOf, Builtin.firstCells, sizeOf, typeInfo, hq, hi, hc0, ← hn, hl, hst]

theorem copy_own {P : Program} {w : World} {base g n cap b o m sCap : Nat} {xs cs : List Value} (dT sT ty elem : TypeId) (k off dLen dCap c : Nat) (hu : P.underlying dT = some (.slice elem)) (hs : (P.info? elem).map (·.size) = some k)
    (hown : w.ownsRow base elem k (.slice (some ⟨g, 0, none⟩) n cap) n xs) (hc0 : m.min dLen = c) (hoff : off + c ≤ n) (hn : cs.length = c * k) (hsrc : ∀ j v, cs[j]? = some v → w.cell? ⟨b, o + j, none⟩ = some v) (h1 : ∀ v ∈ cs, v.oneCell' = true) :
    (Builtin.copy_ #[dT, sT] ty #[.slice (some ⟨g, off * k, none⟩) dLen dCap, .slice (some ⟨b, o, none⟩) m sCap]).run P w = .ok (.int .i64 c) (w.setCells g (off * k) cs) := by
  have hmul : (off + c) * k ≤ n * k := Nat.mul_le_mul_right _ hoff
  rw [Nat.add_mul] at hmul
  refine run_copy_at w dT sT ty elem k g (off * k) dLen dCap m sCap c ⟨b, o, none⟩ cs hu hs hc0 hn (fun j v hv => ?_) (fun j hj => ?_) (fun j _ => owns_frozen hown _) h1
  · rw [Addr.add_lit]; exact hsrc j v hv
  · rw [hown.cellAt _ (by omega), List.getElem?_eq_getElem (by rw [hown.1]; omega)]; rfl

/-- a list into whose middle others were set, twice -/
theorem set_mid (xs zs news tl : List Value) (i : Nat) (hi : i ≤ xs.length) (hz : zs.length = news.length + tl.length) :
    setAll (setAll (xs.take i ++ zs) i news) (i + news.length) tl = xs.take i ++ news ++ tl := by
  have hl : (xs.take i).length = i := by rw [List.length_take]; omega
  rw [setAll_eq tl _ _ (by rw [setAll_len, List.length_append, hl]; omega), setAll_eq news _ i (by rw [List.length_append, hl]; omega)]
  have e1 : (xs.take i ++ zs).take i = xs.take i := List.take_left' hl
  rw [e1]
  have e2 : (xs.take i ++ news ++ List.drop (i + news.length) (xs.take i ++ zs)).take (i + news.length) = xs.take i ++ news := List.take_left' (by rw [List.length_append, hl])
  rw [e2]
  have e3 : List.drop (i + news.length + tl.length) (xs.take i ++ news ++ List.drop (i + news.length) (xs.take i ++ zs)) = [] := by
    apply List.drop_eq_nil_of_le
    simp only [List.length_append, List.length_drop, hl]
    omega
  rw [e3, List.append_nil]

theorem grown0 {w w' : World} (h : Below w.heap.size w w') (row : Option Nat) : w.grownBy w' row := ⟨h.os, h.tape, h.output, h.size, fun k hk _ => h.block k hk⟩

theorem owns_below' {w w' : World} {base : Nat} {e : TypeId} {sz : Nat} {v : Value} {n : Nat} {xs : List Value} (h : w.ownsRow base e sz v n xs) (hb : Below w.heap.size w w') : w'.ownsRow base e sz v n xs := owns_below h hb


set_option maxHeartbeats 2000000 in
set_option maxRecDepth 1000000 in
theorem ins_cls (g n base i b o m : Nat) (xs news : List Value) (w : World) (hown : w.ownsRow base 47 2 (.slice (some ⟨g, 0, none⟩) n n) n xs) (h1c : ∀ u ∈ xs, u.oneCell' = true) (hi : i ≤ n) (hn : n ≤ 65536)
    (hnl : news.length = m * 2) (hm0 : 0 < m) (hm : m ≤ 16) (h1n : ∀ u ∈ news, u.oneCell' = true) (hb : b < w.heap.size) (hnews : ∀ j u, news[j]? = some u → w.cell? ⟨b, o + j, none⟩ = some u) :
    Calls Tryz.prog 107 #[.slice (some ⟨g, 0, none⟩) n n, .int .i64 i, .slice (some ⟨b, o, none⟩) m m] w fun e w' => ∃ g' cap', e = .returned (.slice (some ⟨g', 0, none⟩) (n + m) cap') ∧
      w'.ownsRow w.heap.size 47 2 (.slice (some ⟨g', 0, none⟩) (n + m) cap') (n + m) (xs.take (i * 2) ++ news ++ xs.drop (i * 2)) ∧ Below w.heap.size w w' := by
  obtain ⟨i0, hi0, hz0, hz1, hz2⟩ := info_parts info_class
  have hlen : xs.length = n * 2 := hown.1
  by_cases hin : i = n
  · subst hin
    obtain ⟨cap', W1, hr, ho1, hb1, hcap⟩ := grow_src (P := Tryz.prog) (b := b) (o := o) (m := m) (sc := m) (news := news) 25 25 47 (.agg #[.int .i64 0, .int .i64 0]) 2 16 Tryz.underlying25 info_class rfl hown i hi (by omega) (by omega) (by unfold maxLen; omega) hnl hnews
    rw [List.take_of_length_le (by omega)] at ho1
    rw [List.take_of_length_le (l := xs) (by omega), show xs.drop (i * 2) = [] from List.drop_eq_nil_of_le (by omega), List.append_nil]
    have HO := Lib.hid ho1; have HB := Lib.hid hb1
    clear ho1 hb1 hown h1c h1n hnews hnl hlen
    go_enter Tryz.func107, Tryz.ntmps107
    go_wp2_with (first | (at_builtin; refine wpList_append_known _ rfl _ _ _ _ rfl _ _ rfl rfl _ _ hr ?_) | fail)
    go_ret
    exact ⟨_, _, rfl, HO.out, HB.out⟩
  · have hlt : i < n := by omega
    obtain ⟨K, hK⟩ : ∃ K, n + m - i = K := ⟨_, rfl⟩
    obtain ⟨cap', W1, zs, hr, ho1, hzl, hb1, hs1, hcap⟩ := grow_zeros (P := Tryz.prog) 25 3 25 47 (.agg #[.int .i64 0, .int .i64 0]) 2 16 Tryz.underlying25 Tryz.underlying3 info_class rfl (by decide) hown i K hi (by omega) (by omega) (by omega) (by unfold maxLen; omega)
    have eK : i + K = n + m := by omega
    have hKz : ((n : Int) + (m : Int) - (i : Int)) = (K : Int) := by omega
    rw [eK] at hr ho1 hcap
    have hg : g < w.heap.size := by
      rcases hown.2 with ⟨h0, _⟩ | ⟨g', cp, cur, hv, _, hg, _⟩
      · cases h0
      · cases hv; exact (Array.getElem?_eq_some_iff.1 hg).1
    have hwr : IntKind.i64.wrap ((i : Int) + (m : Int)) = (i : Int) + (m : Int) := by rw [IntKind.wrap_i64]; omega
    have hp0 : (0 : Int) ≤ (i : Int) + (m : Int) := by omega
    have hp1 : (i : Int) + (m : Int) ≤ (n : Int) + (m : Int) := by omega
    have hp2 : ((i : Int) + (m : Int)).toNat = i + m := by omega
    have hcne : ¬ cap' = i + m := by omega
    have hine : ¬ n = i := by omega
    have hc1 := fun ty => copy_own (P := Tryz.prog) (w := W1) (b := b) (o := o) (m := m) (sCap := m) 25 25 ty 47 2 i (n + m - i) (cap' - i) m Tryz.underlying25 (by rw [hi0]; simp [hz1]) ho1 (Nat.min_eq_left (by omega)) (by omega) hnl (fun j u hu => (hb1.cell (p := ⟨b, o + j, none⟩) hb).trans (hnews j u hu)) h1n
    have ho2 := owns_setCells news (i * 2) ho1
    have hb2 : Below w.heap.size w (W1.setCells w.heap.size (i * 2) news) := below_of_grown (grown_setCells news _ (grown0 hb1 _)) (by simp) (Nat.le_refl _)
    have hc2 := fun ty => copy_own (P := Tryz.prog) (b := g) (o := i * 2) (m := n - i) (sCap := n - i) 25 25 ty 47 2 (i + m) (n + m - (i + m)) (cap' - (i + m)) (n - i) Tryz.underlying25 (by rw [hi0]; simp [hz1]) (owns_drew ho2) (by rw [Nat.add_sub_add_right]; exact Nat.min_self _) (by omega) (cs := xs.drop (i * 2)) (by rw [List.length_drop, hlen]; omega) (fun j u hu => (hb2.drew.cell (p := ⟨g, i * 2 + j, none⟩) hg).trans (by
      rw [List.getElem?_drop] at hu
      exact (hown.cellAt _ (by have := (List.getElem?_eq_some_iff.1 hu).1; omega)).trans hu)) (fun u hu => h1c u (List.mem_of_mem_drop hu))
    have ho3 := owns_setCells (xs.drop (i * 2)) ((i + m) * 2) (owns_drew ho2)
    have hb3 : Below w.heap.size w ((W1.setCells w.heap.size (i * 2) news).drew.setCells w.heap.size ((i + m) * 2) (xs.drop (i * 2))) := below_of_grown (grown_setCells (xs.drop (i * 2)) _ (grown_drew (grown_setCells news _ (grown0 hb1 _)))) (by simp) (Nat.le_refl _)
    have eim : (i + m) * 2 = i * 2 + news.length := by rw [hnl]; omega
    rw [show setAll (setAll (xs.take (i * 2) ++ zs) (i * 2) news) ((i + m) * 2) (xs.drop (i * 2)) = xs.take (i * 2) ++ news ++ xs.drop (i * 2) by rw [eim]; exact set_mid xs zs news _ (i * 2) (by omega) (by rw [hzl, hnl, List.length_drop, hlen]; omega)] at ho3
    have HO := Lib.hid ho3; have HB := Lib.hid hb3
    clear hK hb3 ho3 hb2 ho2 ho1 hown h1c h1n hnews hzl hlen
    skip
    go_enter Tryz.func107, Tryz.ntmps107
    go_wp2_with (first | (at_builtin; refine wpList_append_known _ rfl _ _ _ _ rfl _ _ rfl rfl _ _ hr ?_) | fail)
    go_region_law (refine step_copy_known rfl (.tmp 50) (.tmp 53) 25 25 rfl _ _ (by simp [Act.eval, Act.put]) (by simp [Act.eval, Act.put]) _ _ (hc2 _) ?_)
    all_goals go_wp2
    all_goals go_ret
    rw [Nat.add_mul] at HO HB
    all_goals exact ⟨_, _, rfl, HO.out, HB.out⟩

set_option maxHeartbeats 2000000 in
set_option maxRecDepth 1000000 in
theorem ins_int (g n base i b o m : Nat) (xs news : List Value) (w : World) (hown : w.ownsRow base 3 1 (.slice (some ⟨g, 0, none⟩) n n) n xs) (h1c : ∀ u ∈ xs, u.oneCell' = true) (hi : i ≤ n) (hn : n ≤ 65536)
    (hnl : news.length = m * 1) (hm0 : 0 < m) (hm : m ≤ 16) (h1n : ∀ u ∈ news, u.oneCell' = true) (hb : b < w.heap.size) (hnews : ∀ j u, news[j]? = some u → w.cell? ⟨b, o + j, none⟩ = some u) :
    Calls Tryz.prog 134 #[.slice (some ⟨g, 0, none⟩) n n, .int .i64 i, .slice (some ⟨b, o, none⟩) m m] w fun e w' => ∃ g' cap', e = .returned (.slice (some ⟨g', 0, none⟩) (n + m) cap') ∧
      w'.ownsRow w.heap.size 3 1 (.slice (some ⟨g', 0, none⟩) (n + m) cap') (n + m) (xs.take (i) ++ news ++ xs.drop (i)) ∧ Below w.heap.size w w' := by
  obtain ⟨i0, hi0, hz0, hz1, hz2⟩ := info_parts info_int'
  have hlen : xs.length = n * 1 := hown.1
  by_cases hin : i = n
  · subst hin
    obtain ⟨cap', W1, hr, ho1, hb1, hcap⟩ := grow_src (P := Tryz.prog) (b := b) (o := o) (m := m) (sc := m) (news := news) 26 26 3 (.int .i64 0) 1 8 Tryz.underlying26 info_int' rfl hown i hi (by omega) (by omega) (by unfold maxLen; omega) hnl hnews
    rw [List.take_of_length_le (by omega)] at ho1
    rw [List.take_of_length_le (l := xs) (by omega), show xs.drop (i) = [] from List.drop_eq_nil_of_le (by omega), List.append_nil]
    have HO := Lib.hid ho1; have HB := Lib.hid hb1
    clear ho1 hb1 hown h1c h1n hnews hnl hlen
    go_enter Tryz.func134, Tryz.ntmps134
    go_wp2_with (first | (at_builtin; refine wpList_append_known _ rfl _ _ _ _ rfl _ _ rfl rfl _ _ hr ?_) | fail)
    go_ret
    exact ⟨_, _, rfl, HO.out, HB.out⟩
  · have hlt : i < n := by omega
    obtain ⟨K, hK⟩ : ∃ K, n + m - i = K := ⟨_, rfl⟩
    obtain ⟨cap', W1, zs, hr, ho1, hzl, hb1, hs1, hcap⟩ := grow_zeros (P := Tryz.prog) 26 3 26 3 (.int .i64 0) 1 8 Tryz.underlying26 Tryz.underlying3 info_int' rfl (by decide) hown i K hi (by omega) (by omega) (by omega) (by unfold maxLen; omega)
    have eK : i + K = n + m := by omega
    have hKz : ((n : Int) + (m : Int) - (i : Int)) = (K : Int) := by omega
    rw [eK] at hr ho1 hcap
    have hg : g < w.heap.size := by
      rcases hown.2 with ⟨h0, _⟩ | ⟨g', cp, cur, hv, _, hg, _⟩
      · cases h0
      · cases hv; exact (Array.getElem?_eq_some_iff.1 hg).1
    have hwr : IntKind.i64.wrap ((i : Int) + (m : Int)) = (i : Int) + (m : Int) := by rw [IntKind.wrap_i64]; omega
    have hp0 : (0 : Int) ≤ (i : Int) + (m : Int) := by omega
    have hp1 : (i : Int) + (m : Int) ≤ (n : Int) + (m : Int) := by omega
    have hp2 : ((i : Int) + (m : Int)).toNat = i + m := by omega
    have hcne : ¬ cap' = i + m := by omega
    have hine : ¬ n = i := by omega
    have hc1 := fun ty => copy_own (P := Tryz.prog) (w := W1) (b := b) (o := o) (m := m) (sCap := m) 26 26 ty 3 1 i (n + m - i) (cap' - i) m Tryz.underlying26 (by rw [hi0]; simp [hz1]) ho1 (Nat.min_eq_left (by omega)) (by omega) hnl (fun j u hu => (hb1.cell (p := ⟨b, o + j, none⟩) hb).trans (hnews j u hu)) h1n
    have ho2 := owns_setCells news (i * 1) ho1
    have hb2 : Below w.heap.size w (W1.setCells w.heap.size (i * 1) news) := below_of_grown (grown_setCells news _ (grown0 hb1 _)) (by simp) (Nat.le_refl _)
    have hc2 := fun ty => copy_own (P := Tryz.prog) (b := g) (o := i * 1) (m := n - i) (sCap := n - i) 26 26 ty 3 1 (i + m) (n + m - (i + m)) (cap' - (i + m)) (n - i) Tryz.underlying26 (by rw [hi0]; simp [hz1]) (owns_drew ho2) (by rw [Nat.add_sub_add_right]; exact Nat.min_self _) (by omega) (cs := xs.drop (i * 1)) (by rw [List.length_drop, hlen]; omega) (fun j u hu => (hb2.drew.cell (p := ⟨g, i * 1 + j, none⟩) hg).trans (by
      rw [List.getElem?_drop] at hu
      exact (hown.cellAt _ (by have := (List.getElem?_eq_some_iff.1 hu).1; omega)).trans hu)) (fun u hu => h1c u (List.mem_of_mem_drop hu))
    have ho3 := owns_setCells (xs.drop (i * 1)) ((i + m) * 1) (owns_drew ho2)
    have hb3 : Below w.heap.size w ((W1.setCells w.heap.size (i * 1) news).drew.setCells w.heap.size ((i + m) * 1) (xs.drop (i * 1))) := below_of_grown (grown_setCells (xs.drop (i * 1)) _ (grown_drew (grown_setCells news _ (grown0 hb1 _)))) (by simp) (Nat.le_refl _)
    have eim : (i + m) * 1 = i * 1 + news.length := by rw [hnl]; omega
    rw [show setAll (setAll (xs.take (i * 1) ++ zs) (i * 1) news) ((i + m) * 1) (xs.drop (i * 1)) = xs.take (i * 1) ++ news ++ xs.drop (i * 1) by rw [eim]; exact set_mid xs zs news _ (i * 1) (by omega) (by rw [hzl, hnl, List.length_drop, hlen]; omega)] at ho3
    have HO := Lib.hid ho3; have HB := Lib.hid hb3
    clear hK hb3 ho3 hb2 ho2 ho1 hown h1c h1n hnews hzl hlen
    simp only [Nat.mul_one] at hc1 hc2 HO HB
    go_enter Tryz.func134, Tryz.ntmps134
    go_wp2_with (first | (at_builtin; refine wpList_append_known _ rfl _ _ _ _ rfl _ _ rfl rfl _ _ hr ?_) | fail)
    go_region_law (refine step_copy_known rfl (.tmp 50) (.tmp 53) 26 26 rfl _ _ (by simp [Act.eval, Act.put]) (by simp [Act.eval, Act.put]) _ _ (hc2 _) ?_)
    all_goals go_wp2
    all_goals go_ret
    skip
    all_goals exact ⟨_, _, rfl, HO.out, HB.out⟩

set_option maxHeartbeats 2000000 in
set_option maxRecDepth 1000000 in
/-- slices.Replace of nothing: Insert -/
theorem rep_same (g n base i b o m : Nat) (xs news : List Value) (w : World) (hown : w.ownsRow base 3 1 (.slice (some ⟨g, 0, none⟩) n n) n xs) (h1c : ∀ u ∈ xs, u.oneCell' = true) (hi : i ≤ n) (hn : n ≤ 65536)
    (hnl : news.length = m * 1) (hm0 : 0 < m) (hm : m ≤ 16) (h1n : ∀ u ∈ news, u.oneCell' = true) (hb : b < w.heap.size) (hnews : ∀ j u, news[j]? = some u → w.cell? ⟨b, o + j, none⟩ = some u) :
    Calls Tryz.prog 109 #[.slice (some ⟨g, 0, none⟩) n n, .int .i64 i, .int .i64 i, .slice (some ⟨b, o, none⟩) m m] w fun e w' => ∃ g' cap', e = .returned (.slice (some ⟨g', 0, none⟩) (n + m) cap') ∧
      w'.ownsRow w.heap.size 3 1 (.slice (some ⟨g', 0, none⟩) (n + m) cap') (n + m) (xs.take i ++ news ++ xs.drop i) ∧ Below w.heap.size w w' := by
  have HI := Lib.hid (ins_int g n base i b o m xs news w hown h1c hi hn hnl hm0 hm h1n hb hnews)
  clear hown h1c hnl h1n hb hnews
  by_cases hin : i = n
  · subst hin
    go_enter Tryz.func109, Tryz.ntmps109
    go_wp2_with fail
    refine HI.out.mono ?_
    rintro e w1 ⟨g', cap', rfl, ho, hb⟩
    have HO := Lib.hid ho; have HB := Lib.hid hb
    clear ho hb
    go_wp2
    go_ret
    exact ⟨_, _, rfl, HO.out, HB.out⟩
  · have hine : ¬ n = i := fun e => hin e.symm
    go_enter Tryz.func109, Tryz.ntmps109
    go_wp2_with fail
    refine HI.out.mono ?_
    rintro e w1 ⟨g', cap', rfl, ho, hb⟩
    have HO := Lib.hid ho; have HB := Lib.hid hb
    clear ho hb
    go_wp2
    go_ret
    exact ⟨_, _, rfl, HO.out, HB.out⟩

set_option maxHeartbeats 2000000 in
set_option maxRecDepth 1000000 in
/-- slices.Replace of one element by two -/
theorem rep_two (g n base i b o : Nat) (xs news : List Value) (w : World) (hown : w.ownsRow base 3 1 (.slice (some ⟨g, 0, none⟩) n n) n xs) (h1c : ∀ u ∈ xs, u.oneCell' = true) (hi : i < n) (hn : n ≤ 65536)
    (hnl : news.length = 2) (h1n : ∀ u ∈ news, u.oneCell' = true) (hb : b < w.heap.size) (hnews : ∀ j u, news[j]? = some u → w.cell? ⟨b, o + j, none⟩ = some u) :
    Calls Tryz.prog 109 #[.slice (some ⟨g, 0, none⟩) n n, .int .i64 i, .int .i64 ((i : Int) + 1), .slice (some ⟨b, o, none⟩) 2 2] w fun e w' => ∃ g' cap', e = .returned (.slice (some ⟨g', 0, none⟩) (n + 1) cap') ∧
      w'.ownsRow w.heap.size 3 1 (.slice (some ⟨g', 0, none⟩) (n + 1) cap') (n + 1) (xs.take i ++ news ++ xs.drop (i + 1)) ∧ Below w.heap.size w w' := by
  obtain ⟨i0, hi0, hz0, hz1, hz2⟩ := info_parts info_int'
  have hlen : xs.length = n := by have := hown.1; omega
  have hnz : ((i : Int) == (i : Int) + 1) = false := by simp; omega
  have hp1 : (i : Int) + 1 ≤ (n : Int) := by omega
  by_cases hin : i + 1 = n
  · have hz : (i : Int) + 1 = (n : Int) := by omega
    obtain ⟨cap', W1, hr, ho1, hb1, hcap⟩ := grow_src (P := Tryz.prog) (b := b) (o := o) (m := 2) (sc := 2) (news := news) 26 26 3 (.int .i64 0) 1 8 Tryz.underlying26 info_int' rfl hown i (by omega) (by omega) (by omega) (by unfold maxLen; omega) (by omega) hnews
    rw [show i + 2 = n + 1 by omega] at hr ho1
    rw [show xs.drop (i + 1) = [] from List.drop_eq_nil_of_le (by omega), List.append_nil]
    rw [Nat.mul_one] at ho1
    have HO := Lib.hid ho1; have HB := Lib.hid hb1
    clear ho1 hb1 hown h1c h1n hnews hnl hlen hin
    rw [hz] at hnz hp1 ⊢
    go_enter Tryz.func109, Tryz.ntmps109
    go_wp2_with (first | (at_builtin; refine wpList_append_known _ rfl _ _ _ _ rfl _ _ rfl rfl _ _ hr ?_) | fail)
    go_ret
    exact ⟨_, _, rfl, HO.out, HB.out⟩
  · have hlt : i + 1 < n := by omega
    obtain ⟨K, hK⟩ : ∃ K, n + 1 - i = K := ⟨_, rfl⟩
    have eK : i + K = n + 1 := by omega
    have hne2 : ((i : Int) + 1 == (n : Int)) = false := by simp; omega
    have hp2 : ((i : Int) + 1).toNat = i + 1 := by omega
    have hp3 : (0 : Int) ≤ (i : Int) + 1 := by omega
    have hq0 : (0 : Int) ≤ (i : Int) + 2 := by omega
    have hq1 : (i : Int) + 2 ≤ (n : Int) + 1 := by omega
    have hq2 : ((i : Int) + 2).toNat = i + 2 := by omega
    have hwr : IntKind.i64.wrap ((i : Int) + 2) = (i : Int) + 2 := by rw [IntKind.wrap_i64]; omega
    have hine : ¬ n = i + 1 := by omega
    have hKz : (n : Int) + 1 - (i : Int) = (K : Int) := by omega
    have hnz2 : (((n - (i + 1) : Nat) : Int)) = (n : Int) - (i : Int) - 1 := by omega
    have htot : (i : Int) + 2 + ((n : Int) - (i : Int) - 1) = (n : Int) + 1 := by omega
    have htot1 : IntKind.i64.wrap ((i : Int) + 2 + ((n : Int) - (i : Int) - 1)) = (n : Int) + 1 := by rw [IntKind.wrap_i64]; omega
    have HOW := Lib.hid hown; have HNW := Lib.hid hnews; have HNL := Lib.hid hnl; have H1 := Lib.hid h1c; have H2 := Lib.hid h1n; have HL := Lib.hid hlen
    clear hown hnews hnl h1c h1n hlen hK
    go_enter Tryz.func109, Tryz.ntmps109
    go_wp2_with fail
    go_quiet (fail)
    obtain ⟨W, hW⟩ : ∃ W, w.drewN nq = W := ⟨_, rfl⟩
    have hbW : Below w.heap.size w W := by rw [← hW]; exact below_drewN (Below.refl _ w) _
    have hs : W.heap.size = w.heap.size := by rw [← hW]; rfl
    rw [hW]
    have hown := owns_below HOW.out hbW
    have hnews : ∀ j u, news[j]? = some u → W.cell? ⟨b, o + j, none⟩ = some u := fun j u hu => (hbW.cell (p := ⟨b, o + j, none⟩) hb).trans (HNW.out j u hu)
    have hbs : b < W.heap.size := by omega
    have hnl := HNL.out; have h1c := H1.out; have h1n := H2.out; have hlen := HL.out
    obtain ⟨cap', W1, zs, hr, ho1, hzl, hb1, hs1, hcap⟩ := grow_zeros (P := Tryz.prog) 26 3 26 3 (.int .i64 0) 1 8 Tryz.underlying26 Tryz.underlying3 info_int' rfl (by decide) hown i K (by omega) (by omega) (by omega) (by omega) (by unfold maxLen; omega)
    rw [eK] at hr ho1 hcap
    have hg : g < W.heap.size := by
      rcases hown.2 with ⟨h0, _⟩ | ⟨g', cp, cur, hv, _, hg, _⟩
      · cases h0
      · cases hv; exact (Array.getElem?_eq_some_iff.1 hg).1
    have hcne : ¬ cap' = i + 2 := by omega
    have hc1 := fun ty => copy_own (P := Tryz.prog) (w := W1) (b := b) (o := o) (m := 2) (sCap := 2) 26 26 ty 3 1 i (n + 1 - i) (cap' - i) 2 Tryz.underlying26 (by rw [hi0]; simp [hz1]) ho1 (Nat.min_eq_left (by omega)) (by omega) (by omega) (fun j u hu => (hb1.cell (p := ⟨b, o + j, none⟩) hbs).trans (hnews j u hu)) h1n
    have ho2 := owns_setCells news (i * 1) ho1
    have hb2 : Below W.heap.size W (W1.setCells W.heap.size (i * 1) news) := below_of_grown (grown_setCells news _ (grown0 hb1 _)) (by simp) (Nat.le_refl _)
    have hc2 := fun ty => copy_own (P := Tryz.prog) (b := g) (o := i + 1) (m := n - (i + 1)) (sCap := n - (i + 1)) 26 26 ty 3 1 (i + 2) (n + 1 - (i + 2)) (cap' - (i + 2)) (n - (i + 1)) Tryz.underlying26 (by rw [hi0]; simp [hz1]) (owns_drew ho2) (by rw [show n + 1 - (i + 2) = n - (i + 1) by omega]; exact Nat.min_self _) (by omega) (cs := xs.drop (i + 1)) (by rw [List.length_drop, hlen]; omega) (fun j u hu => (hb2.drew.cell (p := ⟨g, i + 1 + j, none⟩) hg).trans (by
      rw [List.getElem?_drop] at hu
      exact (hown.cellAt _ (by have := (List.getElem?_eq_some_iff.1 hu).1; omega)).trans hu)) (fun u hu => h1c u (List.mem_of_mem_drop hu))
    have ho3 := owns_setCells (xs.drop (i + 1)) ((i + 2) * 1) (owns_drew ho2)
    have hb3 : Below W.heap.size W ((W1.setCells W.heap.size (i * 1) news).drew.setCells W.heap.size ((i + 2) * 1) (xs.drop (i + 1))) := below_of_grown (grown_setCells (xs.drop (i + 1)) _ (grown_drew (grown_setCells news _ (grown0 hb1 _)))) (by simp) (Nat.le_refl _)
    rw [show setAll (setAll (xs.take (i * 1) ++ zs) (i * 1) news) ((i + 2) * 1) (xs.drop (i + 1)) = xs.take i ++ news ++ xs.drop (i + 1) by
      simp only [Nat.mul_one]; rw [show i + 2 = i + news.length by omega]; exact set_mid xs zs news _ i (by omega) (by rw [hzl, hnl, List.length_drop, hlen]; omega)] at ho3
    have HO := Lib.hid ho3; have HB := Lib.hid (hbW.trans (hb3.mono hbW.size))
    rw [hs] at hr hc1 hc2 HO HB
    clear hb3 ho3 hb2 ho2 ho1 hown h1c h1n hnews hzl hlen
    simp only [Nat.mul_one] at hc1 hc2 HO HB
    go_wp2_with (first | (at_builtin; refine wpList_append_known _ rfl _ _ _ _ rfl _ _ rfl rfl _ _ hr ?_) | fail)
    go_region_law (refine step_copy_known rfl (.tmp 78) (.tmp 81) 26 26 rfl _ _ (by simp [Act.eval, Act.put]) (by simp [Act.eval, Act.put]) _ _ (hc2 _) ?_)
    all_goals go_wp2
    all_goals go_ret
    all_goals exact ⟨_, _, rfl, HO.out, HB.out⟩

end Go.Proofs.YtkkoooagamadjaaGreatDoor

namespace Go.Proofs.YtkkoooagamadjaaGreatDoor
open Go.RowKit

/-- block b holds these cells -/
def Blk (w : World) (b : Nat) (cs : Array Value) (t : TypeId) : Prop := w.heap[b]? = some (.cells cs t (0, 0))
theorem Blk.new (w : World) (cs : Array Value) (t : TypeId) : Blk (w.alloc (.cells cs t)) w.heap.size cs t := heap_alloc_new w _
theorem Blk.lt {w : World} {b : Nat} {cs : Array Value} {t : TypeId} (h : Blk w b cs t) : b < w.heap.size := (Array.getElem?_eq_some_iff.1 h).1
theorem Blk.keep {w w' : World} {b : Nat} {cs : Array Value} {t : TypeId} (h : Blk w b cs t) (hb : Below w.heap.size w w') : Blk w' b cs t := (hb.block b h.lt).trans h
theorem Blk.low {w w' : World} {b B : Nat} {cs : Array Value} {t : TypeId} (h : Blk w b cs t) (hb : Below B w w') (hB : b < B) : Blk w' b cs t := (hb.block b hB).trans h
theorem Blk.drew {w : World} {b : Nat} {cs : Array Value} {t : TypeId} (h : Blk w b cs t) : Blk w.drew b cs t := h
theorem Blk.drewN {w : World} {b : Nat} {cs : Array Value} {t : TypeId} (h : Blk w b cs t) (n : Nat) : Blk (w.drewN n) b cs t := h
theorem Blk.alloc {w : World} {b : Nat} {cs : Array Value} {t : TypeId} (h : Blk w b cs t) (o : Obj) : Blk (w.alloc o) b cs t := (Below.heap_alloc _ _ _ h.lt).trans h
theorem Blk.grown {w w' : World} {b : Nat} {cs : Array Value} {t : TypeId} {row : Option Nat} (h : Blk w b cs t) (hg : w.grownBy w' row) (hne : row ≠ some b) : Blk w' b cs t := (hg.block b h.lt (Ne.symm hne)).trans h
theorem Blk.other {w : World} {b g j : Nat} {cs : Array Value} {t : TypeId} (h : Blk w b cs t) (hne : b ≠ g) (u : Value) : Blk (w.setCell ⟨g, j, none⟩ u) b cs t := (Below.heap_setCell _ _ _ _ (by show b ≠ g; exact hne)).trans h
theorem Blk.cell {w : World} {b : Nat} {cs : Array Value} {t : TypeId} (h : Blk w b cs t) {i : Nat} {v : Value} (hv : cs[i]? = some v) : w.cell? ⟨b, i, none⟩ = some v := by
  unfold Blk at h; simp [World.cell?, h, hv]
theorem Blk.free {w : World} {b : Nat} {cs : Array Value} {t : TypeId} (h : Blk w b cs t) (i : Nat) : w.frozen? ⟨b, i, none⟩ = false := by
  unfold Blk at h; simp [World.frozen?, h]
theorem Blk.store {w : World} {b : Nat} {cs : Array Value} {t : TypeId} (h : Blk w b cs t) (j : Nat) (u : Value) : Blk (w.setCell ⟨b, j, none⟩ u) b (cs.set! j u) t := heap_setCell_same w b j _ _ u h
theorem Blk.two {w : World} {b : Nat} {x y : Value} {t : TypeId} (h : Blk w b #[x, y] t) : w.cell? ⟨b, 0, none⟩ = some x ∧ w.cell? ⟨b, 1, none⟩ = some y := ⟨h.cell rfl, h.cell rfl⟩
theorem Blk.put2 {w : World} {b : Nat} {x y : Value} {t : TypeId} (h : Blk w b #[x, y] t) (u v : Value) : Blk ((w.setCell ⟨b, 0, none⟩ u).setCell ⟨b, 1, none⟩ v) b #[u, v] t := (h.store 0 u).store 1 v
theorem Blk.over2 {w : World} {b g : Nat} {cs : Array Value} {t : TypeId} (h : Blk w b cs t) (hne : b ≠ g) (u v : Value) : Blk ((w.setCell ⟨g, 0, none⟩ u).setCell ⟨g, 1, none⟩ v) b cs t := (h.other hne u).other hne v
theorem Blk.nine {w : World} {b : Nat} {a0 a1 a2 a3 a4 a5 a6 a7 a8 : Value} {t : TypeId} (h : Blk w b #[a0, a1, a2, a3, a4, a5, a6, a7, a8] t) :
    w.cell? ⟨b, 0, none⟩ = some a0 ∧ w.cell? ⟨b, 1, none⟩ = some a1 ∧ w.cell? ⟨b, 2, none⟩ = some a2 ∧ w.cell? ⟨b, 3, none⟩ = some a3 ∧ w.cell? ⟨b, 4, none⟩ = some a4 ∧ w.cell? ⟨b, 5, none⟩ = some a5 ∧ w.cell? ⟨b, 6, none⟩ = some a6 ∧ w.cell? ⟨b, 7, none⟩ = some a7 ∧ w.cell? ⟨b, 8, none⟩ = some a8 :=
  ⟨h.cell rfl, h.cell rfl, h.cell rfl, h.cell rfl, h.cell rfl, h.cell rfl, h.cell rfl, h.cell rfl, h.cell rfl⟩

end Go.Proofs.YtkkoooagamadjaaGreatDoor

namespace Go.Proofs.YtkkoooagamadjaaGreatDoor
open Go.RowKit

/-- a row stays while a row of another kind grows -/
theorem owns_beside {w w' : World} {b1 b2 : Nat} {e1 e2 : TypeId} {s1 s2 n1 n2 : Nat} {v1 v2 : Value} {xs1 xs2 : List Value} (h1 : w.ownsRow b1 e1 s1 v1 n1 xs1) (h2 : w.ownsRow b2 e2 s2 v2 n2 xs2) (he : e1 ≠ e2) (hg : w.grownBy w' v1.ownBlock) : w'.ownsRow b2 e2 s2 v2 n2 xs2 := by
  refine h2.kept hg ?_
  rcases h2.2 with ⟨rfl, _⟩ | ⟨g2, cap2, cur2, rfl, _, hg2, _⟩
  · exact .inl rfl
  · refine .inr fun e => ?_
    rcases h1.2 with ⟨rfl, _⟩ | ⟨g1, cap1, cur1, rfl, _, hg1, _⟩
    · simp [Value.ownBlock] at e
    · have e3 : g1 = g2 := by
        simp [Value.ownBlock] at e
        omega
      subst e3
      rw [hg1] at hg2; cases hg2; exact he rfl

/-- first one row alone, then only what is new -/
theorem grown_then_below {a b c : World} {row : Option Nat} (h : a.grownBy b row) (k : Below a.heap.size b c) : a.grownBy c row :=
  ⟨k.os.trans h.os, k.tape.trans h.tape, k.output.trans h.output, Nat.le_trans h.size k.size, fun q hq hne => (k.block q hq).trans (h.block q hq hne)⟩

end Go.Proofs.YtkkoooagamadjaaGreatDoor
