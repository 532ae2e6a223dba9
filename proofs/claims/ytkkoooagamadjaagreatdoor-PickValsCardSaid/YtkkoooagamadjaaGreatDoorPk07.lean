/- Contracts of Put, Of, Count, Within, First and Same. own and formed of package drop: a zone in memory of its own. -/
import Derived.Test.YtkkoooagamadjaaGreatDoorPk06
import Derived.Test.YtkkoooagamadjaaGreatDoorPk05
import Derived.Test.YtkkoooagamadjaaGreatDoorPk01
import Derived.Laws.CopyOwn
import Derived.Laws.OwnMore
import Derived.Laws.MakeOwn

namespace Go.Proofs.YtkkoooagamadjaaGreatDoor
open Go.RowKit

set_option maxHeartbeats 1000000 in
theorem put_any (s i : Int) (is : Bool) (w : World) (hs0 : -9223372036854775808 ≤ s) (hs1 : s ≤ 9223372036854775807) :
    Calls Tryz.prog 31 #[.int .i64 s, .int .i64 i, .bool is] w fun e w' => e = .returned (.int .i64 (putZ s i is)) ∧ Below w.heap.size w w' := by
  have HB := Lib.hid (truths_len s 31)
  by_cases h : 0 ≤ i ∧ i ≤ 30
  · obtain ⟨h0, h1⟩ := h
    obtain ⟨n, rfl⟩ := Int.eq_ofNat_of_zero_le h0
    have hn : n < 31 := by omega
    have HS := Lib.hid (set_truths s n is (by omega))
    go_enter Tryz.func31, Tryz.ntmps31
    go_wp2_with fail
    refine (in_any s _ hs0 hs1).mono ?_
    rintro e w1 ⟨v, rfl, hown, hb⟩
    obtain ⟨g, cap, rfl, hg, hgs⟩ := owns_shape hown (by omega)
    have hcell := World.ownsRow.cellAt hown n (by omega)
    have hfr := World.ownsRow.frozenAt hown n
    obtain ⟨bv, hbv⟩ : ∃ bv, (bools (truths s 31))[n]? = some bv := ⟨_, List.getElem?_eq_getElem (by rw [bools_len, HB.out]; exact hn)⟩
    rw [hbv] at hcell
    have hst := (World.ownsRow.stored hown n (.bool is)).1
    have hb' : Below w.heap.size w (w1.setCell ⟨g, n, none⟩ (.bool is)) := hb.setCell hg _
    rw [show (bools (truths s 31)).set n (.bool is) = bools ((truths s 31).set n is) by simp [bools, List.map_set]] at hst
    clear hbv hown hb
    have HST := Lib.hid hst; clear hst
    have HBL := Lib.hid hb'; clear hb'
    go_wp2_with (go_at_call 63; refine (sum_any _ ((truths s 31).set n is) _ (by rw [List.length_set]; exact HB.out) (Reads.of_owns HST.out)).mono ?_; rintro e w' ⟨rfl, rfl⟩)
    go_ret
    exact ⟨ret_int HS.out, HBL.out⟩
  · have h' : i < 0 ∨ 30 < i := by omega
    have HS : Hid (((sumB (truths s 31) : Nat) : Int) = putZ s i is) := by unfold Hid; rw [putZ_out s i is h', ← sum_truths]; rfl
    clear h
    rcases h' with h | h
    all_goals
      go_enter Tryz.func31, Tryz.ntmps31
      go_wp2_with fail
      refine (in_any s _ hs0 hs1).mono ?_
      rintro e w1 ⟨v, rfl, hown, hb⟩
      have HST := Lib.hid hown; clear hown
      have HBL := Lib.hid hb; clear hb
      go_wp2_with (go_at_call 63; refine (sum_any _ (truths s 31) _ HB.out (Reads.of_owns HST.out)).mono ?_; rintro e w' ⟨rfl, rfl⟩)
      go_ret
      exact ⟨ret_int HS.out, HBL.out⟩

set_option maxHeartbeats 1000000 in
theorem of_any (v : Value) (l : List Int) (w : World) (hv : Reads w v (ints l)) :
    Calls Tryz.prog 42 #[v] w fun e w' => e = .returned (.int .i64 (ofL l)) ∧ w = w' := by
  have hz : ofL (l.take 0) = 0 := rfl
  rcases hv with ⟨ad, cap, rfl, h0⟩ | ⟨b, off, cap, rfl, _, hm, hc⟩
  · have hl : l = [] := by simpa [ints] using h0
    subst hl
    go_enter Tryz.func42, Tryz.ntmps42
    go_wp2
    refine wp_loop_rounds 1 ?_
    rw [rounds_succ]
    go_wp2
    go_ret
    exact ⟨rfl, rfl⟩
  · rw [ints_len] at hm ⊢
    unfold maxLen at hm
    have HC := Lib.hid hc; clear hc
    obtain ⟨n, hn⟩ : ∃ n, n = l.length := ⟨_, rfl⟩
    rw [← hn] at hm ⊢
    have HN := Lib.hid hn; clear hn hz
    go_enter Tryz.func42, Tryz.ntmps42
    go_wp2
    go_loop [3, 5, 8] (fun s _ i => ∃ (k : Nat) (a : Int), k ≤ n ∧ i = .int .i64 k ∧ s = .int .i64 a ∧ Hid (a = ofL (l.take k))) (fun _ _ i => n - (intOf i).toNat)
    case atStart => exact ⟨0, 0, Nat.zero_le _, rfl, rfl, rfl⟩
    case round =>
      obtain ⟨k, a, hk, rfl, rfl, HA⟩ := hrel
      by_cases hlt : k < n
      · obtain ⟨x, hx⟩ : ∃ x, l[k]? = some x := ⟨_, List.getElem?_eq_getElem (by rw [← HN.out]; exact hlt)⟩
        have hcell : w.cell? ⟨b, off + k, none⟩ = some (.int .i64 x) := HC.out k _ (by simp [ints, hx])
        have HS : Hid (putZ a x true = ofL (l.take (k + 1))) := by unfold Hid; rw [List.take_add_one, hx, HA.out]; exact (ofL_snoc _ _).symm
        clear hx
        go_wp2_with (go_at_call 75; refine (with_any _ _ _).mono ?_; rintro e w' ⟨rfl, rfl⟩)
        go_round
        case rel => exact ⟨k + 1, _, by omega, by go_num, rfl, HS⟩
        case measure => simp [intOf]; omega
      · obtain rfl : n = k := by omega
        have HE : Hid (a = ofL l) := by unfold Hid; rw [HA.out, HN.out, List.take_length]
        go_wp2
        go_ret
        exact ⟨ret_int HE.out, rfl⟩

theorem all_range_succ (f : Nat → Bool) (k : Nat) : (List.range (k + 1)).all f = ((List.range k).all f && f k) := by
  rw [List.range_succ, List.all_append]; simp

theorem first_mid (n : Int) (h0 : 0 < n) (h1 : n ≤ 31) : wrap64 (wrap64 (2 ^ n.toNat) - 1) = firstZ n := by
  have e : ((2 : Int) ^ n.toNat) = ((2 ^ n.toNat : Nat) : Int) := by simp
  have hp : (2 : Nat) ^ n.toNat ≤ 2 ^ 31 := Nat.pow_le_pow_right (by omega) (by omega)
  have hq : 1 ≤ (2 : Nat) ^ n.toNat := Nat.one_le_two_pow
  have hc : clamp n = n.toNat := by unfold clamp; omega
  unfold firstZ
  rw [e, hc]
  generalize (2 : Nat) ^ n.toNat = m at *
  rw [IntWalk.wrap64_in (m : Int) ⟨by omega, by omega⟩, IntWalk.wrap64_in _ ⟨by omega, by omega⟩]
  omega

set_option maxHeartbeats 400000 in
theorem first_any (n : Int) (w : World) :
    Calls Tryz.prog 58 #[.int .i64 n] w fun e w' => e = .returned (.int .i64 (firstZ n)) ∧ w = w' := by
  rcases (show n ≤ 0 ∨ (0 < n ∧ n ≤ 31) ∨ 31 < n by omega) with h | ⟨h, h'⟩ | h
  · have H : Hid (firstZ n = 0) := by unfold Hid firstZ; rw [show clamp n = 0 by unfold clamp; omega]; rfl
    go_enter Tryz.func58, Tryz.ntmps58
    go_wp2
    go_ret
    exact ⟨ret_int (by rw [H.out]), rfl⟩
  · have H := Lib.hid (first_mid n h h')
    go_enter Tryz.func58, Tryz.ntmps58
    go_wp2
    go_ret
    exact ⟨ret_int H.out, rfl⟩
  · have H : Hid (firstZ n = 2147483647) := by unfold Hid firstZ; rw [show clamp n = 31 by unfold clamp; omega]; rfl
    go_enter Tryz.func58, Tryz.ntmps58
    go_wp2
    go_ret
    exact ⟨ret_int (by rw [H.out]), rfl⟩

end Go.Proofs.YtkkoooagamadjaaGreatDoor

namespace Go.Proofs.YtkkoooagamadjaaGreatDoor
open Go.RowKit

theorem run_copy_k {P : Program} (w : World) (dT sT ty elem : TypeId) (k g n dCap : Nat) (a : Addr) (sCap : Nat) (cs : List Value) (hu : P.underlying dT = some (.slice elem)) (hs : (P.info? elem).map (·.size) = some k) (hn : cs.length = n * k)
    (hsrc : ∀ j v, cs[j]? = some v → w.cell? (a.add j) = some v) (hc : ∀ j, j < cs.length → (w.cell? ⟨g, j, none⟩).isSome = true) (hf : ∀ j, j < cs.length → w.frozen? ⟨g, j, none⟩ = false) (h1 : ∀ v ∈ cs, v.oneCell' = true) :
    (Builtin.copy_ #[dT, sT] ty #[.slice (some ⟨g, 0, none⟩) n dCap, .slice (some a) n sCap]).run P w = .ok (goInt n) (w.setCells g 0 cs) := by
  have hl := run_loadCells_list (P := P) w a cs hsrc
  have hst := run_storeCells_cells (P := P) g 0 cs 0 w (by simpa using hc) (by simpa using hf) h1
  simp only [Nat.add_zero] at hst
  cases hq : P.info? elem with
  | none => simp [hq] at hs
  | some i =>
    have hi : i.size = k := by simpa [hq] using hs
    simp [Builtin.copy_, run_underlying hu, Builtin.lenOf, Builtin.firstCells, sizeOf, typeInfo, hq, hi, ← hn, hl, hst]

/-- copy of one slice over another of the same length that the call owns -/
theorem run_copyk {P : Program} {w : World} (dT sT ty : TypeId) (elem : TypeId) (hu : P.underlying dT = some (.slice elem)) (k : Nat) (hsz : (P.info? elem).map (·.size) = some k)
    {base base' g n cap : Nat} {v : Value} {xs cs : List Value}
    (hown : w.ownsRow base elem k (.slice (some ⟨g, 0, none⟩) n cap) n xs) (hsrc : w.ownsRow base' elem k v n cs) (h1 : ∀ v ∈ cs, v.oneCell' = true) :
    ∃ w', (Builtin.copy_ #[dT, sT] ty #[.slice (some ⟨g, 0, none⟩) n cap, v]).run P w = .ok (.int .i64 n) w' ∧ w'.ownsRow base elem k (.slice (some ⟨g, 0, none⟩) n cap) n cs ∧ w.grownBy w' (some g) := by
  rcases hsrc.2 with ⟨rfl, h0⟩ | ⟨g', cap', cur, rfl, _⟩
  · subst h0
    have hcs : cs = [] := List.eq_nil_of_length_eq_zero (by have := hsrc.1; omega)
    have hxs : xs = [] := List.eq_nil_of_length_eq_zero (by have := hown.1; omega)
    have hrun := run_copy_nil (P := P) w dT sT ty elem ⟨g, 0, none⟩ 0 cap hu (by rw [hsz]; rfl)
    exact ⟨w, hrun, by rw [hcs]; rw [hxs] at hown; exact hown, ⟨rfl, rfl, rfl, Nat.le_refl _, fun _ _ _ => rfl⟩⟩
  · have hl : cs.length = xs.length := by rw [hsrc.1, hown.1]
    have hrun := run_copy_k (P := P) w dT sT ty elem k g n cap ⟨g', 0, none⟩ cap' cs hu hsz hsrc.1 (hsrc.cells (g := g') rfl)
      (fun j hj => by rw [hown.cellAt _ (by rw [← hown.1]; omega), List.getElem?_eq_getElem (by omega)]; rfl) (fun j _ => owns_frozen hown j) h1
    refine ⟨_, hrun, ?_, grown_setCells _ _ ⟨rfl, rfl, rfl, Nat.le_refl _, fun _ _ _ => rfl⟩⟩
    have := owns_setCells cs 0 hown
    rw [setAll_eq cs xs 0 (by omega), Nat.zero_add, hl, List.drop_length] at this
    simpa using this

/-- what a slice owns stays while a block of another kind turns -/
theorem owns_turn {w w' : World} {base : Nat} {e : TypeId} {sz : Nat} {v : Value} {n g : Nat} {xs : List Value} (h : w.ownsRow base e sz v n xs) (hg : w.grownBy w' (some g)) {cs : Array Value} {t : TypeId} {fz : Nat × Nat} (ho : w.heap[g]? = some (.cells cs t fz)) (ht : t ≠ e) : w'.ownsRow base e sz v n xs := by
  refine h.kept hg ?_
  rcases h.2 with ⟨rfl, _⟩ | ⟨g', cap, cur, rfl, _, hg', _⟩
  · exact .inl rfl
  · refine .inr fun e' => ?_
    have e2 : g' = g := by simpa [Value.ownBlock] using e'
    subst e2
    rw [hg'] at ho; cases ho; exact ht rfl

/-- a zone in memory: its classes and its gaps -/
def ZoneAt (w : World) (base : Nat) (v1 v2 : Value) (cl : List (Int × Int)) (gl : List Int) : Prop :=
  w.ownsRow base 47 2 v1 cl.length (cellsP cl) ∧ w.ownsRow base 3 1 v2 gl.length (ints gl)

theorem cellsP_one (l : List (Int × Int)) : ∀ v ∈ cellsP l, v.oneCell' = true := by
  intro v hv
  unfold cellsP at hv
  obtain ⟨p, _, hp⟩ := List.mem_flatMap.1 hv
  simp at hp
  rcases hp with rfl | rfl <;> rfl
theorem ints_one (l : List Int) : ∀ v ∈ ints l, v.oneCell' = true := by
  intro v hv
  unfold ints at hv
  obtain ⟨p, _, rfl⟩ := List.mem_map.1 hv
  rfl

theorem ZoneAt.below {w w' : World} {base : Nat} {v1 v2 : Value} {cl : List (Int × Int)} {gl : List Int} (h : ZoneAt w base v1 v2 cl gl) (hb : Below w.heap.size w w') : ZoneAt w' base v1 v2 cl gl := ⟨owns_below h.1 hb, owns_below h.2 hb⟩

theorem heap_drew' (w : World) : w.drew.heap = w.heap := rfl
theorem alloc_get (w : World) (o : Obj) (k : Nat) : (w.alloc o).heap[k]? = if k = w.heap.size then some o else w.heap[k]? := by
  show (w.heap.push o)[k]? = _
  rw [Array.getElem?_push]

set_option maxRecDepth 100000 in
set_option maxHeartbeats 4000000 in
theorem dropOwn_any (base : Nat) (v1 v2 : Value) (cl : List (Int × Int)) (gl : List Int) (w : World) (hz : ZoneAt w base v1 v2 cl gl) (hcl : cl.length ≤ 65536) (hgl : gl.length ≤ 65536) :
    Calls Tryz.prog 50 #[.agg #[v1, v2]] w fun e w' => ∃ g1 g2, e = .returned (.agg #[.slice (some ⟨g1, 0, none⟩) cl.length cl.length, .slice (some ⟨g2, 0, none⟩) gl.length gl.length]) ∧ ZoneAt w' w.heap.size (.slice (some ⟨g1, 0, none⟩) cl.length cl.length) (.slice (some ⟨g2, 0, none⟩) gl.length gl.length) cl gl ∧ Below w.heap.size w w' := by
  obtain ⟨i0, hi0, hz0, hz1, hz2⟩ := info_parts info_class
  obtain ⟨i1, hi1, hy0, hy1, hy2⟩ := info_parts info_int'
  obtain ⟨ad1, cap1, rfl⟩ := owns_len hz.1
  obtain ⟨ad2, cap2, rfl⟩ := owns_len hz.2
  have mk1 := fun (w : World) => run_makeSlice (P := Tryz.prog) w 25 47 i0 _ Tryz.underlying25 hi0 hz0 .i64 .i64 (cl.length : Int) (cl.length : Int) (by omega) (Int.le_refl _) (by rw [hz1]; simp; omega) (by rw [hz2]; omega) (by omega)
  have mk2 := fun (w : World) => run_makeSlice (P := Tryz.prog) w 26 3 i1 _ Tryz.underlying26 hi1 hy0 .i64 .i64 (gl.length : Int) (gl.length : Int) (by omega) (Int.le_refl _) (by rw [hy1]; simp; omega) (by rw [hy2]; omega) (by omega)
  simp only [Int.toNat_natCast] at mk1 mk2
  have HZ := Lib.hid hz
  clear hz
  go_enter Tryz.func50, Tryz.ntmps50
  go_wp2
  rename_i K aK
  have HK : ∀ (g1 g2 bo : Nat) (W1 : World), Below w.heap.size w W1 → W1.heap[g1]? = some (.cells (madeCells #[.int .i64 0, .int .i64 0] (cl.length * 2)) 47 (0, 0)) → W1.heap[g2]? = some (.cells (madeCells #[.int .i64 0] gl.length) 3 (0, 0)) →
      W1.heap[bo]? = some (.cells #[.slice (some ⟨g1, 0, none⟩) cl.length cl.length, .slice (some ⟨g2, 0, none⟩) gl.length gl.length] 28 (0, 0)) →
      W1.heap[w.heap.size]? = some (.cells #[.slice ad1 cl.length cap1, .slice ad2 gl.length cap2] 28 (0, 0)) → W1.heap[w.heap.size + 1]? = some (.cells #[.slice none 0 0, .slice none 0 0] 28 (0, 0)) →
      w.heap.size + 2 ≤ g1 → w.heap.size + 2 ≤ g2 → w.heap.size + 2 ≤ bo →
      K { tmps := #[.agg #[.slice ad1 cl.length cap1, .slice ad2 gl.length cap2], .pointer (some ⟨w.heap.size, 0, none⟩), .pointer (some ⟨w.heap.size + 1, 0, none⟩), .pointer (some ⟨bo, 0, none⟩), .pointer (some ⟨w.heap.size, 0, none⟩), .slice ad1 cl.length cap1,
          .int .i64 cl.length, .slice (some ⟨g1, 0, none⟩) cl.length cl.length, .pointer (some ⟨w.heap.size, 1, none⟩), .slice ad2 gl.length cap2, .int .i64 gl.length, .slice (some ⟨g2, 0, none⟩) gl.length gl.length,
          .agg #[.slice (some ⟨g1, 0, none⟩) cl.length cl.length, .slice (some ⟨g2, 0, none⟩) gl.length gl.length], undef, undef, undef, undef, undef, undef, undef, undef, undef, undef, undef], defers := [] } W1 := by
    intro g1 g2 bo W1 hb h1 h2 h3 h4 h5 q1 q2 q3
    apply aK
    have hbl : bo < W1.heap.size := (Array.getElem?_eq_some_iff.1 h3).1
    have hn1 : g1 ≠ g2 := fun e => by subst e; rw [h1] at h2; simp at h2
    have hn2 : g1 ≠ bo := fun e => by subst e; rw [h1] at h3; simp at h3
    have hn3 : g2 ≠ bo := fun e => by subst e; rw [h2] at h3; simp at h3
    have z1 : ZoneAt W1 base (.slice ad1 cl.length cap1) (.slice ad2 gl.length cap2) cl gl := HZ.out.below hb
    have o1 : W1.ownsRow w.heap.size 47 2 (.slice (some ⟨g1, 0, none⟩) cl.length cl.length) cl.length (madeCells #[.int .i64 0, .int .i64 0] (cl.length * 2)).toList :=
      ⟨by simp [size_madeCells], .inr ⟨g1, cl.length, _, rfl, by omega, h1, Nat.le_refl _, by unfold maxLen; omega, by simp [size_madeCells], List.take_of_length_le (by simp [size_madeCells])⟩⟩
    have o2 : W1.ownsRow w.heap.size 3 1 (.slice (some ⟨g2, 0, none⟩) gl.length gl.length) gl.length (madeCells #[.int .i64 0] gl.length).toList :=
      ⟨by simp [size_madeCells], .inr ⟨g2, gl.length, _, rfl, by omega, h2, Nat.le_refl _, by unfold maxLen; omega, by simp [size_madeCells], List.take_of_length_le (by simp [size_madeCells])⟩⟩
    have c1 : W1.cell? ⟨bo, 0, none⟩ = some (.slice (some ⟨g1, 0, none⟩) cl.length cl.length) := by simp [World.cell?, h3]
    have c3 : W1.cell? ⟨w.heap.size, 0, none⟩ = some (.slice ad1 cl.length cap1) := by simp [World.cell?, h4]
    obtain ⟨W2, k1, o1', hg1⟩ := run_copyk (P := Tryz.prog) (w := W1) 25 25 3 47 Tryz.underlying25 2 (by rw [hi0]; simp [hz1]) o1 z1.1 (cellsP_one _)
    have o2' := owns_turn o2 hg1 h1 (by decide)
    have z2' := owns_turn z1.2 hg1 h1 (by decide)
    obtain ⟨W3, k2, o2'', hg2⟩ := run_copyk (P := Tryz.prog) (w := W2) 26 26 3 3 Tryz.underlying26 1 (by rw [hi1]; simp [hy1]) o2' z2' (ints_one _)
    have h2' : W2.heap[g2]? = _ := (hg1.block g2 (Array.getElem?_eq_some_iff.1 h2).1 (by simp; omega)).trans h2
    have o1'' := owns_turn o1' hg2 h2' (by decide)
    have e3 : W2.heap[bo]? = _ := (hg1.block bo hbl (by simp; omega)).trans h3
    have e4 : W2.heap[w.heap.size]? = _ := (hg1.block _ (Array.getElem?_eq_some_iff.1 h4).1 (by simp; omega)).trans h4
    have e5 : W2.heap[w.heap.size + 1]? = _ := (hg1.block _ (Array.getElem?_eq_some_iff.1 h5).1 (by simp; omega)).trans h5
    have f3 : W3.heap[bo]? = _ := (hg2.block bo (Nat.lt_of_lt_of_le hbl hg1.size) (by simp; omega)).trans e3
    have f5 : W3.heap[w.heap.size + 1]? = _ := (hg2.block _ (Array.getElem?_eq_some_iff.1 e5).1 (by simp; omega)).trans e5
    have d1 : W2.cell? ⟨bo, 1, none⟩ = some (.slice (some ⟨g2, 0, none⟩) gl.length gl.length) := by simp [World.cell?, e3]
    have d2 : W2.cell? ⟨w.heap.size, 1, none⟩ = some (.slice ad2 gl.length cap2) := by simp [World.cell?, e4]
    have d3 : W3.cell? ⟨bo, 0, none⟩ = some (.slice (some ⟨g1, 0, none⟩) cl.length cl.length) := by simp [World.cell?, f3]
    have d4 : W3.cell? ⟨bo, 1, none⟩ = some (.slice (some ⟨g2, 0, none⟩) gl.length gl.length) := by simp [World.cell?, f3]
    have d5 : W3.cell? ⟨w.heap.size + 1, 0, none⟩ = some (.slice none 0 0) := by simp [World.cell?, f5]
    have d6 : W3.cell? ⟨w.heap.size + 1, 1, none⟩ = some (.slice none 0 0) := by simp [World.cell?, f5]
    have d7 : W3.frozen? ⟨w.heap.size + 1, 0, none⟩ = false := by simp [World.frozen?, f5]
    have d8 : W3.frozen? ⟨w.heap.size + 1, 1, none⟩ = false := by simp [World.frozen?, f5]
    have HB3 := Lib.hid ((hb.grown hg1 hb.size (fun k e => by cases e; omega)).grown hg2 (Nat.le_trans hb.size hg1.size) (fun k e => by cases e; omega))
    have HO1 := Lib.hid o1''
    have HO2 := Lib.hid o2''
    have hlt : w.heap.size + 1 < W3.heap.size := (Array.getElem?_eq_some_iff.1 f5).1
    clear hb o1 o2 z1 o1' o2' z2' o1'' o2'' hg1 hg2 h1 h2 h3 h4 h5 h2' e3 e4 e5 f3 f5
    go_wp2
    have r0 : ((W3.setCell ⟨w.heap.size + 1, 0, none⟩ (.slice (some ⟨g1, 0, none⟩) cl.length cl.length)).setCell ⟨w.heap.size + 1, 1, none⟩ (.slice (some ⟨g2, 0, none⟩) gl.length gl.length)).cell? ⟨w.heap.size + 1, 0, none⟩ = some (.slice (some ⟨g1, 0, none⟩) cl.length cl.length) := by go_simp
    have r1 : ((W3.setCell ⟨w.heap.size + 1, 0, none⟩ (.slice (some ⟨g1, 0, none⟩) cl.length cl.length)).setCell ⟨w.heap.size + 1, 1, none⟩ (.slice (some ⟨g2, 0, none⟩) gl.length gl.length)).cell? ⟨w.heap.size + 1, 1, none⟩ = some (.slice (some ⟨g2, 0, none⟩) gl.length gl.length) := by go_simp
    refine bodyPost_ret (v := .agg #[.slice (some ⟨g1, 0, none⟩) cl.length cl.length, .slice (some ⟨g2, 0, none⟩) gl.length gl.length]) (by simp [results, Tryz.results50, go_sem, r0, r1]) rfl ?_
    refine ⟨_, _, rfl, ⟨ownsRow_setCell_other (ownsRow_setCell_other HO1.out ?_ _) ?_ _, ownsRow_setCell_other (ownsRow_setCell_other HO2.out ?_ _) ?_ _⟩, (HB3.out.setCell (p := ⟨w.heap.size + 1, 0, none⟩) (by simp) _).setCell (p := ⟨w.heap.size + 1, 1, none⟩) (by simp) _⟩
    all_goals simp [Value.ownBlock]; omega
  clear aK
  go_region
  all_goals (refine HK _ _ _ _ ?_ ?_ ?_ ?_ ?_ ?_ ?_ ?_ ?_)
  all_goals first
    | omega
    | exact Below.drew ((((((Below.refl _ w).alloc (Nat.le_refl _) _).alloc (by simp) _).alloc (by simp; omega) _).alloc (by simp; omega) _).alloc (by simp; omega) _)
    | (rw [heap_drew']; simp only [alloc_get, World.size_alloc, if_true]; done)
    | (rw [heap_drew']; simp only [alloc_get, World.size_alloc, if_true]; repeat' split
       all_goals first | rfl | (exfalso; omega))

end Go.Proofs.YtkkoooagamadjaaGreatDoor
