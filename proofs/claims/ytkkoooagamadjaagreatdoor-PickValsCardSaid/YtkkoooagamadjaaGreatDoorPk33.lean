/- slices.Compact of numbers in order. num.Sorted: few numbers of 64 bits, each once, in order. Points, sorted by their numbers, those of one number as they stood: cmp.Compare, the closure of zone.points, insertionSortCmpFunc, SortStableFunc. slices.SortStableFunc of fewer than 20 points. -/
import Derived.Test.YtkkoooagamadjaaGreatDoorPk32
import Derived.Test.YtkkoooagamadjaaGreatDoorPk13
import Derived.Deep.RegionHeld3

namespace Go.Proofs.YtkkoooagamadjaaGreatDoor
open Go.RowKit

/-- where the second loop of Compact stands -/
structure CpK (l cur : List Int) (n K k i : Nat) : Prop where
  len : cur.length = n
  low : k ≤ K + i
  take : sortS (l.take (K + i + 1)) = cur.take k
  rest : ∀ p, K + i ≤ p → cur[p]? = l[p]?
theorem CpK.same {l cur : List Int} {n K k i : Nat} {x : Int} (h : CpK l cur n K k i) (hx : l[K + i + 1]? = some x) (hy : l[K + i]? = some x) : CpK l cur n K k (i + 1) :=
  ⟨h.len, by have := h.low; omega, by rw [show K + (i + 1) + 1 = K + i + 2 by omega, uniq_same hx hy]; exact h.take, fun p hp => h.rest p (by omega)⟩
theorem CpK.more {l cur : List Int} {n K k i : Nat} {x y : Int} (h : CpK l cur n K k i) (hs : l.Pairwise (fun a b => a ≤ b)) (hx : l[K + i + 1]? = some x) (hy : l[K + i]? = some y) (hne : x ≠ y) (hkn : k < n) : CpK l (cur.set k x) n K (k + 1) (i + 1) := by
  refine ⟨by rw [List.length_set]; exact h.len, by have := h.low; omega, ?_, fun p hp => ?_⟩
  · rw [show K + (i + 1) + 1 = K + i + 2 by omega, uniq_more hs hx hy hne, h.take, List.take_add_one, List.getElem?_set_self (by rw [h.len]; exact hkn), List.take_set_of_le (Nat.le_refl _)]
    rfl
  · rw [List.getElem?_set_ne (by have := h.low; omega)]
    exact h.rest p (by omega)

set_option maxRecDepth 100000 in
set_option maxHeartbeats 4000000 in
theorem compact_run (g n cap base : Nat) (l : List Int) (w : World) (hn : n = l.length) (hn1 : 2 ≤ n) (hn2 : n ≤ 1000) (hs : l.Pairwise (fun a b => a ≤ b))
    (hown : w.ownsRow base 2 1 (.slice (some ⟨g, 0, none⟩) n cap) n (ints l)) :
    Calls Tryz.prog 57 #[.slice (some ⟨g, 0, none⟩) n cap] w fun e w' => ∃ v', e = .returned v' ∧ w'.ownsRow base 2 1 v' (sortS l).length (ints (sortS l)) ∧ w.grownBy w' (some g) := by
  have hcap : n ≤ cap := by
    rcases hown.2 with ⟨h0, _⟩ | ⟨g', cap', cur, hv, hb, hg, hn, _⟩
    · cases h0
    · cases hv; exact hn
  have hmax : cap ≤ maxLen := by
    rcases hown.2 with ⟨h0, _⟩ | ⟨g', cap', cur, hv, hb, hg, hn, hm, _⟩
    · cases h0
    · cases hv; exact hm
  unfold maxLen at hmax
  have HN := Lib.hid hn; have HS := Lib.hid hs; have HO := Lib.hid hown
  have hl0 : ∃ x, l[0]? = some x := ⟨_, List.getElem?_eq_getElem (by omega)⟩
  have HU1 : Hid (sortS (l.take 1) = l.take 1) := by
    obtain ⟨x, hx⟩ := hl0
    unfold Hid
    rw [uniq_one hx, List.take_add_one, hx]; rfl
  clear hn hs hown hl0
  go_enter Tryz.func57, Tryz.ntmps57
  go_wp2_with fail
  go_loopw [3] (fun k wr => ∃ (q : Nat), q + 1 ≤ n ∧ k = .int .i64 ((q + 1 : Nat) : Int) ∧ Hid (sortS (l.take (q + 1)) = l.take (q + 1)) ∧ Hid (wr.ownsRow base 2 1 (.slice (some ⟨g, 0, none⟩) n cap) n (ints l)) ∧ Hid (w.grownBy wr (some g))) (fun k _ => n - (intOf k).toNat)
  case atStart => exact ⟨0, by omega, rfl, HU1, HO, ⟨rfl, rfl, rfl, Nat.le_refl _, fun _ _ _ => rfl⟩⟩
  case round =>
    clear HO HU1
    obtain ⟨q, hq, rfl, HU, HO, HG⟩ := hrel
    by_cases hlt : q + 1 < n
    · obtain ⟨x, hx⟩ : ∃ x, l[q + 1]? = some x := ⟨_, List.getElem?_eq_getElem (by rw [← HN.out]; exact hlt)⟩
      obtain ⟨y, hy⟩ : ∃ y, l[q]? = some y := ⟨_, List.getElem?_eq_getElem (by rw [← HN.out]; omega)⟩
      have c1 : wr.cell? ⟨g, q + 1, none⟩ = some (.int .i64 x) := by rw [HO.out.cellAt _ (by omega)]; exact ints_get hx
      have c2 : wr.cell? ⟨g, q, none⟩ = some (.int .i64 y) := by rw [HO.out.cellAt _ (by omega)]; exact ints_get hy
      have p1 : ((q + 1 : Nat) : Int) < (n : Int) := by omega
      have p2 : ((q + 1 : Nat) : Int) - 1 < (n : Int) := by omega
      have p3 : (0 : Int) ≤ ((q + 1 : Nat) : Int) := by omega
      have HX := Lib.hid hx; have HY := Lib.hid hy
      clear hx hy
      by_cases hxy : x = y
      · subst hxy
        go_wp2_with fail
        go_quiet (fail)
        generalize hwq : wr.drewN nq = wq
        have HOQ : Hid (wq.ownsRow base 2 1 (.slice (some ⟨g, 0, none⟩) n cap) n (ints l)) := by rw [← hwq]; exact HO
        have HGQ : Hid (w.grownBy wq (some g)) := by rw [← hwq]; exact ⟨HG.out.os, HG.out.tape, HG.out.output, HG.out.size, HG.out.block⟩
        have HK0 : Hid (CpK l l n (q + 1) (q + 1) 0) := by
          refine ⟨HN.out.symm, by omega, ?_, fun p _ => rfl⟩
          rw [show q + 1 + 0 + 1 = q + 2 by omega, uniq_same HX.out HY.out]
          exact HU.out
        clear hwq HO HG c1 c2 HX HY HU
        obtain ⟨K, hK⟩ : ∃ K, q + 1 = K := ⟨_, rfl⟩
        rw [hK] at HK0 p1 p3 hlt ⊢
        have hK1 : 1 ≤ K := by omega
        have hcK : ¬ cap = K := by omega
        have hcK2 : ¬ cap - K = 0 := by omega
        have hKc : (K : Int) ≤ (cap : Int) := by omega
        have hKn : (K : Int) ≤ (n : Int) := by omega
        clear hK p2 hq
        go_wp2_with fail
        obtain ⟨wo, hwo⟩ : ∃ w1, w1 = wq := ⟨_, rfl⟩
        go_loopw [3, 5] (fun k j wr => ∃ (p i : Nat) (cur : List Int), k = .int .i64 p ∧ j = .int .i64 ((i + 1 : Nat) : Int) ∧ i + 1 ≤ n - K ∧ p < n ∧ 1 ≤ p ∧ Hid (CpK l cur n K p i) ∧ Hid (wr.ownsRow base 2 1 (.slice (some ⟨g, 0, none⟩) n cap) n (ints cur)) ∧ Hid (w.grownBy wr (some g))) (fun _ j _ => n - K - (intOf j).toNat)
        case atStart => exact ⟨K, 0, l, rfl, rfl, by omega, hlt, hK1, HK0, HOQ, HGQ⟩
        case round =>
          clear HOQ HGQ HK0 hwo
          obtain ⟨p, i, cur, rfl, rfl, hi, hp, hp1, HK, HO, HG⟩ := hrel
          by_cases hlt2 : i + 1 < n - K
          · have hKi : K + i + 1 < n := by omega
            obtain ⟨x2, hx2⟩ : ∃ x, l[K + i + 1]? = some x := ⟨_, List.getElem?_eq_getElem (by rw [← HN.out]; exact hKi)⟩
            obtain ⟨y2, hy2⟩ : ∃ y, l[K + i]? = some y := ⟨_, List.getElem?_eq_getElem (by rw [← HN.out]; omega)⟩
            have c1 : wr.cell? ⟨g, K + (i + 1), none⟩ = some (.int .i64 x2) := by rw [HO.out.cellAt _ (by omega)]; exact ints_get (by rw [HK.out.rest _ (by omega)]; exact hx2)
            have c2 : wr.cell? ⟨g, K + i, none⟩ = some (.int .i64 y2) := by rw [HO.out.cellAt _ (by omega)]; exact ints_get (by rw [HK.out.rest _ (by omega)]; exact hy2)
            have p1 : ((i + 1 : Nat) : Int) < ((n - K : Nat) : Int) := by omega
            have p2 : ((i + 1 : Nat) : Int) - 1 < ((n - K : Nat) : Int) := by omega
            have p4 : (p : Int) < (n : Int) := by omega
            obtain ⟨z, hz⟩ : ∃ z, cur[p]? = some z := ⟨_, List.getElem?_eq_getElem (by rw [HK.out.len]; exact hp)⟩
            have c3 : wr.cell? ⟨g, p, none⟩ = some (.int .i64 z) := by rw [HO.out.cellAt _ (by omega)]; exact ints_get hz
            have f3 := owns_frozen HO.out p
            have HX := Lib.hid hx2; have HY := Lib.hid hy2
            clear hx2 hy2 hz
            by_cases hxy : x2 = y2
            · subst hxy
              have HK2 := Lib.hid (HK.out.same HX.out HY.out)
              clear c3 f3 HK HX HY
              go_wp2_with fail
              go_quiet (fail)
              generalize hwq : wr.drewN nq = wq
              have HOQ : Hid (wq.ownsRow base 2 1 (.slice (some ⟨g, 0, none⟩) n cap) n (ints cur)) := by rw [← hwq]; exact HO
              have HGQ : Hid (w.grownBy wq (some g)) := by rw [← hwq]; exact ⟨HG.out.os, HG.out.tape, HG.out.output, HG.out.size, HG.out.block⟩
              clear hwq HO HG c1 c2
              go_wp2_with fail
              go_roundw
              case rel => exact ⟨p, i + 1, cur, rfl, by go_num, by omega, hp, hp1, HK2, HOQ, HGQ⟩
              case measure => simp [intOf]; omega
            · have HK2 := Lib.hid (HK.out.more HS.out HX.out HY.out hxy hp)
              have hxb : (x2 == y2) = false := by simpa using hxy
              have hp2 : p + 1 < n := by have := HK.out.low; omega
              clear hxy HK HX HY
              go_wp2_with fail
              go_quiet (fail)
              generalize hwq : wr.drewN nq = wq
              have HOQ : Hid (wq.ownsRow base 2 1 (.slice (some ⟨g, 0, none⟩) n cap) n (ints cur)) := by rw [← hwq]; exact HO
              have HGQ : Hid (w.grownBy wq (some g)) := by rw [← hwq]; exact ⟨HG.out.os, HG.out.tape, HG.out.output, HG.out.size, HG.out.block⟩
              have d1 : wq.cell? ⟨g, K + (i + 1), none⟩ = some (.int .i64 x2) := by rw [← hwq, World.cell?_drewN]; exact c1
              have d3 : wq.cell? ⟨g, p, none⟩ = some (.int .i64 z) := by rw [← hwq, World.cell?_drewN]; exact c3
              have g3 : wq.frozen? ⟨g, p, none⟩ = false := by rw [← hwq, World.frozen?_drewN]; exact f3
              have HO2 : Hid ((wq.setCell ⟨g, p, none⟩ (.int .i64 x2)).ownsRow base 2 1 (.slice (some ⟨g, 0, none⟩) n cap) n (ints (cur.set p x2))) := by unfold Hid; rw [ints_set]; exact owns_set HOQ.out _ _
              have HG2 : Hid (w.grownBy (wq.setCell ⟨g, p, none⟩ (.int .i64 x2)) (some g)) := grown_set HGQ.out _
              clear hwq HO HG c1 c2 c3 f3 HOQ HGQ
              go_wp2_with fail
              go_roundw
              case rel => exact ⟨p + 1, i + 1, cur.set p x2, by go_num, by go_num, by omega, hp2, by omega, HK2, HO2, HG2⟩
              case measure => simp [intOf]; omega
          · have hiK : K + i + 1 = n := by omega
            have htk := HK.out.take
            rw [hiK, List.take_of_length_le (by rw [← HN.out]; exact Nat.le_refl _)] at htk
            have HTK := Lib.hid htk
            have hplen : (sortS l).length = p := by rw [htk, List.length_take, HK.out.len]; omega
            have HPL := Lib.hid hplen
            have hno : ¬ ((i + 1 : Nat) : Int) < ((n - K : Nat) : Int) := by omega
            have hcp : ¬ cap = p := by omega
            have hcp2 : ¬ cap - p = 0 := by omega
            have hpn : (p : Int) ≤ (n : Int) := by omega
            have hpc : (p : Int) ≤ (cap : Int) := by omega
            have kc : ∀ ty, (Builtin.clear_ #[22] ty #[.slice (some ⟨g, p, none⟩) (n - p) (cap - p)]).run Tryz.prog wr = .ok (.tuple #[]) (wr.setCells g p (List.replicate (n - p) (.int .i64 0))) := fun ty =>
              Lib.run_clear_slice wr 22 2 ty (.int .i64 0) Tryz.underlying22 (fun w => Tryz.zeroValue2 _) rfl rfl g p (n - p) _ (by omega) (fun j hj => by
                rw [HO.out.cellAt _ (by omega), List.getElem?_eq_getElem (by rw [ints_len, HK.out.len]; omega)]; rfl) (fun j _ => owns_frozen HO.out _)
            have HOF : Hid ((wr.setCells g p (List.replicate (n - p) (.int .i64 0))).ownsRow base 2 1 (.slice (some ⟨g, 0, none⟩) p cap) p (ints (sortS l))) := by
              have h3 := owns_shrink (owns_setCells (List.replicate (n - p) (.int .i64 0)) p HO.out) (show p ≤ n by omega)
              rw [Nat.mul_one] at h3
              unfold Hid
              have e : (setAll (ints cur) p (List.replicate (n - p) (.int .i64 0))).take p = ints (sortS l) := by
                rw [setAll_eq _ _ _ (by rw [List.length_replicate, ints_len, HK.out.len]; omega), List.append_assoc, List.take_append_of_le_length (by rw [List.length_take, ints_len, HK.out.len]; omega), List.take_of_length_le (by rw [List.length_take]; omega), htk]
                unfold ints; rw [List.map_take]
              rw [e] at h3
              exact h3
            have HGF := Lib.hid (grown_setCells (List.replicate (n - p) (.int .i64 0)) p HG.out)
            have hk1 := kc
            clear kc htk hplen HK HO HG HTK
            go_wp2_with fail
            first
            | (go_ret; refine ⟨_, rfl, ?_, HGF.out⟩; rw [HPL.out]; exact HOF.out)
      · have HU2 : Hid (sortS (l.take (q + 1 + 1)) = l.take (q + 1 + 1)) := by
          unfold Hid
          rw [show q + 1 + 1 = q + 2 by omega, uniq_more HS.out HX.out HY.out hxy, HU.out]
          rw [show q + 2 = (q + 1) + 1 by omega, List.take_add_one (l := l) (i := q + 1), HX.out]
          rfl
        have hxb : (x == y) = false := by simpa using hxy
        clear hxy
        go_wp2_with fail
        go_quiet (fail)
        generalize hwq : wr.drewN nq = wq
        have HOQ : Hid (wq.ownsRow base 2 1 (.slice (some ⟨g, 0, none⟩) n cap) n (ints l)) := by rw [← hwq]; exact HO
        have HGQ : Hid (w.grownBy wq (some g)) := by rw [← hwq]; exact ⟨HG.out.os, HG.out.tape, HG.out.output, HG.out.size, HG.out.block⟩
        clear hwq HO HG c1 c2 HX HY HU
        go_wp2_with fail
        go_roundw
        case rel => exact ⟨q + 1, by omega, by go_num, HU2, HOQ, HGQ⟩
        case measure => simp [intOf]; omega
    · have he : q + 1 = n := by omega
      have hU := HU.out
      rw [List.take_of_length_le (by rw [← HN.out]; omega)] at hU
      have HF := Lib.hid hU
      clear hU HU
      go_wp2_with fail
      go_ret
      refine ⟨_, rfl, ?_, HG.out⟩
      rw [HF.out, ← HN.out]; exact HO.out

end Go.Proofs.YtkkoooagamadjaaGreatDoor

namespace Go.Proofs.YtkkoooagamadjaaGreatDoor
open Go.RowKit

set_option maxHeartbeats 1000000 in
theorem compact_any (base : Nat) (v : Value) (l : List Int) (w : World) (hown : w.ownsRow base 2 1 v l.length (ints l)) (hs : l.Pairwise (fun a b => a ≤ b)) (hl : l.length ≤ 1000) :
    Calls Tryz.prog 57 #[v] w fun e w' => ∃ v', e = .returned v' ∧ w'.ownsRow base 2 1 v' (sortS l).length (ints (sortS l)) ∧ w.grownBy w' v.ownBlock := by
  by_cases h2 : l.length < 2
  · have he : sortS l = l := by
      refine int_uniq (sortS_ok _).1 ?_ (fun x => (sortS_ok _).2 x)
      match l, h2 with
      | [], _ => exact List.Pairwise.nil
      | [_], _ => exact List.pairwise_singleton _ _
    obtain ⟨ad, cap, hv⟩ := owns_len hown
    have HF : Hid (w.ownsRow base 2 1 v (sortS l).length (ints (sortS l))) := by unfold Hid; rw [he]; exact hown
    obtain ⟨n, hn⟩ : ∃ n, l.length = n := ⟨_, rfl⟩
    rw [hn] at hv h2
    subst hv
    have h2' : (n : Int) < 2 := by omega
    clear hown he hn hs
    go_enter Tryz.func57, Tryz.ntmps57
    go_wp2
    go_ret
    exact ⟨_, rfl, HF.out, ⟨rfl, rfl, rfl, Nat.le_refl _, fun _ _ _ => rfl⟩⟩
  · have hown' := hown
    rcases hown.2 with ⟨rfl, h0⟩ | ⟨g, cap, cur, rfl, hb, hg, hn, _⟩
    · omega
    · exact (compact_run g l.length cap base l w rfl (by omega) hl hs hown').mono fun e w' h => h

theorem sortK_S {l l' : List Int} (h : SortK (fun x : Int => x) l l') : sortS l' = sortS l := sortS_eq fun _ => h.perm.mem_iff
set_option maxRecDepth 100000 in
set_option maxHeartbeats 1000000 in
theorem sorted64_any {w : World} {v : Value} {l : List Int} (h : Reads w v (ints l)) (hl : l.length ≤ 12) :
    Calls Tryz.prog 23 #[v] w fun e w' => ∃ v', e = .returned v' ∧ w'.ownsRow w.heap.size 2 1 v' (sortS l).length (ints (sortS l)) ∧ Below w.heap.size w w' := by
  have HC := Lib.hid (clone64_any h (by omega))
  obtain ⟨ad, cap, e0, -⟩ := h.len
  subst e0
  clear h
  go_enter Tryz.func23, Tryz.ntmps23
  go_wp2_with fail
  refine HC.out.mono ?_
  rintro e w1 ⟨v1, rfl, ho1, hb1⟩
  obtain ⟨ad1, cap1, hv1⟩ := owns_len ho1
  have HSO := Lib.hid (sortI_any w.heap.size v1 l w1 ho1 hl)
  have HB1 := Lib.hid hb1
  have HLT := Lib.hid (fun k (hk : v1.ownBlock = some k) => (ho1.lt k hk).1)
  subst hv1
  clear ho1 hb1
  go_wp2_with fail
  refine HSO.out.mono ?_
  rintro e w2 ⟨rfl, l', hs', ho2, hg2⟩
  have hl' : l'.length = l.length := hs'.perm.length_eq
  rw [← hl'] at ho2
  have HB2 := Lib.hid (HB1.out.grown hg2 HB1.out.size (fun k hk => HLT.out k hk))
  have HCO := Lib.hid (compact_any w.heap.size _ l' w2 (by rw [hl'] at ho2 ⊢; exact ho2) hs'.sorted (by omega))
  have HE := Lib.hid (sortK_S hs')
  clear ho2 hg2 hs' hl'
  go_wp2_with fail
  refine HCO.out.mono ?_
  rintro e w3 ⟨v3, rfl, ho3, hg3⟩
  rw [HE.out] at ho3
  have HO3 := Lib.hid ho3
  have HB3 := Lib.hid (HB2.out.grown hg3 HB2.out.size (fun k hk => HLT.out k hk))
  obtain ⟨ad3, cap3, hv3⟩ := owns_len ho3
  subst hv3
  clear ho3 hg3
  go_wp2
  go_ret
  exact ⟨_, rfl, HO3.out, HB3.out⟩

end Go.Proofs.YtkkoooagamadjaaGreatDoor

namespace Go.Proofs.YtkkoooagamadjaaGreatDoor
open Go.RowKit

/-- a number, the attributes that have it, the constant that it is -/
abbrev Pt := Int × Int × Int
def cellsT (l : List Pt) : List Value := l.flatMap fun p => [.int .i64 p.1, .int .i64 p.2.1, .int .i64 p.2.2]
theorem cellsT_len (l : List Pt) : (cellsT l).length = l.length * 3 := by
  induction l with
  | nil => rfl
  | cons p r ih => simp only [cellsT, List.flatMap_cons, List.length_append, List.length_cons, List.length_nil] at *; omega
theorem cellsT_snoc (l : List Pt) (p : Pt) : cellsT (l ++ [p]) = cellsT l ++ [.int .i64 p.1, .int .i64 p.2.1, .int .i64 p.2.2] := by simp [cellsT]
theorem cellsT_get (l : List Pt) : ∀ (k : Nat) (p : Pt), l[k]? = some p → (cellsT l)[k * 3]? = some (.int .i64 p.1) ∧ (cellsT l)[k * 3 + 1]? = some (.int .i64 p.2.1) ∧ (cellsT l)[k * 3 + 2]? = some (.int .i64 p.2.2) := by
  induction l with
  | nil => intro k p h; simp at h
  | cons q r ih =>
    intro k p h
    cases k with
    | zero => simp at h; subst h; simp [cellsT]
    | succ k =>
      have := ih k p (by simpa using h)
      rw [show (k + 1) * 3 = k * 3 + 1 + 1 + 1 by omega]
      simpa [cellsT] using this
theorem cellsT_set (l : List Pt) : ∀ (k : Nat) (p : Pt), cellsT (l.set k p) = (((cellsT l).set (k * 3) (.int .i64 p.1)).set (k * 3 + 1) (.int .i64 p.2.1)).set (k * 3 + 2) (.int .i64 p.2.2) := by
  induction l with
  | nil => intro k p; simp [cellsT]
  | cons q r ih =>
    intro k p
    cases k with
    | zero => simp [cellsT]
    | succ k =>
      rw [List.set_cons_succ, show (k + 1) * 3 = k * 3 + 1 + 1 + 1 by omega]
      simp only [cellsT, List.flatMap_cons, List.cons_append, List.nil_append, List.set_cons_succ] at *
      rw [ih]
theorem cellsT_one (l : List Pt) : ∀ u ∈ cellsT l, u.oneCell' = true := by
  intro u hu
  obtain ⟨p, _, hu⟩ := List.mem_flatMap.1 hu
  simp only [List.mem_cons, List.not_mem_nil, or_false] at hu
  rcases hu with rfl | rfl | rfl <;> rfl

/-- how two numbers stand -/
def cmpZ (a b : Int) : Int := if a < b then -1 else if b < a then 1 else 0
set_option maxHeartbeats 1000000 in
theorem ccmp_any (x y : Int) (w : World) : Calls Tryz.prog 45 #[.int .i64 x, .int .i64 y] w fun e w' => e = .returned (.int .i64 (cmpZ x y)) ∧ w' = w := by
  rcases (show x < y ∨ y < x ∨ x = y by omega) with h | h | h
  · have HE : Hid (cmpZ x y = -1) := if_pos h
    go_enter Tryz.func45, Tryz.ntmps45
    go_wp2_with (go_at_call 77; refine (isNaN_any _ _).mono ?_; rintro e w' ⟨rfl, rfl⟩)
    go_ret
    exact ⟨ret_int HE.out.symm, rfl⟩
  · have hn : ¬ x < y := by omega
    have HE : Hid (cmpZ x y = 1) := by unfold Hid cmpZ; rw [if_neg hn, if_pos h]
    go_enter Tryz.func45, Tryz.ntmps45
    go_wp2_with (go_at_call 77; refine (isNaN_any _ _).mono ?_; rintro e w' ⟨rfl, rfl⟩)
    go_ret
    exact ⟨ret_int HE.out.symm, rfl⟩
  · subst h
    have HE : Hid (cmpZ x x = 0) := by unfold Hid cmpZ; rw [if_neg (by omega), if_neg (by omega)]
    go_enter Tryz.func45, Tryz.ntmps45
    go_wp2_with (go_at_call 77; refine (isNaN_any _ _).mono ?_; rintro e w' ⟨rfl, rfl⟩)
    go_ret
    exact ⟨ret_int HE.out.symm, rfl⟩
def ptV (p : Pt) : Value := .agg #[.int .i64 p.1, .int .i64 p.2.1, .int .i64 p.2.2]
set_option maxHeartbeats 2000000 in
theorem pcmp_any (x y : Pt) (w : World) : Calls Tryz.prog 44 #[.agg #[.int .i64 x.1, .int .i64 x.2.1, .int .i64 x.2.2], .agg #[.int .i64 y.1, .int .i64 y.2.1, .int .i64 y.2.2]] w fun e w' => e = .returned (.int .i64 (cmpZ x.1 y.1)) ∧ Below w.heap.size w w' := by
  obtain ⟨W1, hW1⟩ : ∃ W1, w.alloc (.cells #[.int .i64 x.1, .int .i64 x.2.1, .int .i64 x.2.2] 51) = W1 := ⟨_, rfl⟩
  have hs1 : W1.heap.size = w.heap.size + 1 := by rw [← hW1]; simp
  have hb1 : Below w.heap.size w W1 := by rw [← hW1]; exact (Below.refl _ _).alloc (Nat.le_refl _) _
  have x1 : Blk W1 w.heap.size #[.int .i64 x.1, .int .i64 x.2.1, .int .i64 x.2.2] 51 := by rw [← hW1]; exact Blk.new _ _ _
  obtain ⟨W2, hW2⟩ : ∃ W2, W1.alloc (.cells #[.int .i64 y.1, .int .i64 y.2.1, .int .i64 y.2.2] 51) = W2 := ⟨_, rfl⟩
  have hb2 : Below w.heap.size w W2 := by rw [← hW2]; exact hb1.alloc (by omega) _
  have x2 : Blk W2 w.heap.size #[.int .i64 x.1, .int .i64 x.2.1, .int .i64 x.2.2] 51 := by rw [← hW2]; exact x1.alloc _
  have y2 : Blk W2 W1.heap.size #[.int .i64 y.1, .int .i64 y.2.1, .int .i64 y.2.2] 51 := by rw [← hW2]; exact Blk.new _ _ _
  have c0 := x2.cell (i := 0) rfl
  have d0 := y2.cell (i := 0) rfl
  have HB := Lib.hid hb2
  clear hb1 hb2 x1 x2 y2 hs1
  go_enter Tryz.func44, Tryz.ntmps44
  go_wp2_with fail
  refine (ccmp_any _ _ _).mono ?_
  rintro e w' ⟨rfl, rfl⟩
  go_wp2
  go_ret
  exact ⟨rfl, HB.out⟩

theorem owns_putT {w : World} {base : Nat} {e : TypeId} {g n cap q : Nat} {dj : List Pt} {x : Pt} (h : w.ownsRow base e 3 (.slice (some ⟨g, 0, none⟩) n cap) n (cellsT dj)) :
    (((w.setCell ⟨g, q * 3, none⟩ (.int .i64 x.1)).setCell ⟨g, q * 3 + 1, none⟩ (.int .i64 x.2.1)).setCell ⟨g, q * 3 + 2, none⟩ (.int .i64 x.2.2)).ownsRow base e 3 (.slice (some ⟨g, 0, none⟩) n cap) n (cellsT (dj.set q x)) := by
  have h1 := owns_set h (q * 3) (.int .i64 x.1)
  have h2 := owns_set h1 (q * 3 + 1) (.int .i64 x.2.1)
  have h3 := owns_set h2 (q * 3 + 2) (.int .i64 x.2.2)
  rw [cellsT_set]
  exact h3

/-- the closure, as a value -/
def cmpV : Value := .func (.func 44) #[] #[]

set_option maxRecDepth 100000 in
set_option maxHeartbeats 4000000 in
theorem insT_run (g n cap base : Nat) (l : List Pt) (w : World) (hn : n = l.length) (hn2 : n ≤ 8388608)
    (hown : w.ownsRow base 51 3 (.slice (some ⟨g, 0, none⟩) n cap) n (cellsT l)) :
    Calls Tryz.prog 104 #[.slice (some ⟨g, 0, none⟩) n cap, .int .i64 0, .int .i64 n, .func (.func 44) #[] #[]] w fun e w' => e = .returned (.tuple #[]) ∧ ∃ l', SortK (fun p : Pt => p.1) l l' ∧ w'.ownsRow base 51 3 (.slice (some ⟨g, 0, none⟩) n cap) n (cellsT l') ∧ w.grownBy w' (some g) := by
  have HN := Lib.hid hn
  clear hn
  go_enter Tryz.func104, Tryz.ntmps104
  go_wp2
  go_loopw [8, 9] (fun i _ wr => ∃ (k : Nat) (dk : List Pt), 1 ≤ k ∧ (k ≤ n ∨ k = 1) ∧ i = .int .i64 k ∧ Hid (OuterK (fun p : Pt => p.1) l dk k) ∧ Hid (wr.ownsRow base 51 3 (.slice (some ⟨g, 0, none⟩) n cap) n (cellsT dk)) ∧ Hid (w.grownBy wr (some g))) (fun i _ _ => n - (intOf i).toNat)
  case atStart => exact ⟨1, l, Nat.le_refl _, .inr rfl, rfl, outerK_start l, hown, ⟨rfl, rfl, rfl, Nat.le_refl _, fun _ _ _ => rfl⟩⟩
  case round =>
    obtain ⟨i, dk, hi1, hi, rfl, HO, HW, HG⟩ := hrel
    by_cases hlt : i < n
    · have hin : (i : Int) < (n : Int) := by omega
      have HS := Lib.hid (innerK_start HO.out (by rw [← HN.out]; exact hlt))
      clear hi
      go_wp2
      go_loopw [9] (fun k wr => ∃ (j : Nat) (dj : List Pt), j ≤ i ∧ k = .int .i64 j ∧ Hid (InnerK (fun p : Pt => p.1) l dj i j) ∧ Hid (wr.ownsRow base 51 3 (.slice (some ⟨g, 0, none⟩) n cap) n (cellsT dj)) ∧ Hid (w.grownBy wr (some g))) (fun k _ => (intOf k).toNat)
      case atStart => exact ⟨i, dk, Nat.le_refl _, rfl, HS, HW, HG⟩
      case round =>
        obtain ⟨j, dj, hj, rfl, HI, HW2, HG2⟩ := hrel
        by_cases hj0 : j = 0
        · subst hj0
          rw [show ((0 : Nat) : Int) = 0 from rfl]
          have HE := Lib.hid (innerK_end HI.out (.inl rfl))
          have z1 : decide ((0 : Int) < 0) = false := by decide
          go_wp2_with fail
          go_quiet (fail)
          generalize hwq : wr.drewN nq = wq
          have HWQ : Hid (wq.ownsRow base 51 3 (.slice (some ⟨g, 0, none⟩) n cap) n (cellsT dj)) := by rw [← hwq]; exact HW2
          have HGQ : Hid (w.grownBy wq (some g)) := by rw [← hwq]; exact ⟨HG2.out.os, HG2.out.tape, HG2.out.output, HG2.out.size, HG2.out.block⟩
          clear hwq
          go_wp2
          exact ⟨⟨i + 1, dj, by omega, by omega, by go_num, HE, HWQ, HGQ⟩, by simp [intOf]; omega⟩
        · obtain ⟨q, hjq⟩ : ∃ q, j = q + 1 := ⟨j - 1, by omega⟩
          have HJ := Lib.hid hjq
          have hI1 := HI.out
          rw [hjq] at hI1
          have HI1 := Lib.hid hI1
          obtain ⟨A, y, x, B, C, _, _, _, hp, _, _, hx, hy⟩ := innerK_get hI1
          rw [← hjq] at hx
          have hln : dj.length = n := by rw [hp.perm.length_eq, HN.out]
          have p1 : (j : Int) < (n : Int) := by omega
          have p2 : (0 : Int) < (j : Int) := by omega
          have p2n : 0 < j := by omega
          have p4 : (0 : Int) ≤ (j : Int) := by omega
          have p5 : (q : Int) < (n : Int) := by omega
          have p6 : (0 : Int) ≤ (q : Int) := by omega
          have hwp : IntKind.i64.wrap ((j : Int) - 1) = (q : Int) := by rw [IntKind.wrap_i64]; omega
          have hqi : q ≤ i := by omega
          have hmea : (q : Int).toNat < (j : Int).toNat := by omega
          have HMEA := Lib.hid hmea
          obtain ⟨cx0, cx1, cx2⟩ := cellsT_get _ _ _ hx
          obtain ⟨cy0, cy1, cy2⟩ := cellsT_get _ _ _ hy
          have HSF : Hid (∀ W : World, W.ownsRow base 51 3 (.slice (some ⟨g, 0, none⟩) n cap) n (cellsT dj) → W.cell? ⟨g, j * 3, none⟩ = some (.int .i64 x.1) ∧ W.cell? ⟨g, j * 3 + 1, none⟩ = some (.int .i64 x.2.1) ∧ W.cell? ⟨g, j * 3 + 2, none⟩ = some (.int .i64 x.2.2) ∧ W.cell? ⟨g, q * 3, none⟩ = some (.int .i64 y.1) ∧ W.cell? ⟨g, q * 3 + 1, none⟩ = some (.int .i64 y.2.1) ∧ W.cell? ⟨g, q * 3 + 2, none⟩ = some (.int .i64 y.2.2)) := fun W hW =>
            ⟨by rw [hW.cellAt _ (by omega)]; exact cx0, by rw [hW.cellAt _ (by omega)]; exact cx1, by rw [hW.cellAt _ (by omega)]; exact cx2, by rw [hW.cellAt _ (by omega)]; exact cy0, by rw [hW.cellAt _ (by omega)]; exact cy1, by rw [hW.cellAt _ (by omega)]; exact cy2⟩
          obtain ⟨c1, c2, c3, c4, c5, c6⟩ := HSF.out wr HW2.out
          have HSB : Hid (∀ W : World, Below wr.heap.size wr W → W.cell? ⟨g, j * 3, none⟩ = some (.int .i64 x.1) ∧ W.cell? ⟨g, j * 3 + 1, none⟩ = some (.int .i64 x.2.1) ∧ W.cell? ⟨g, j * 3 + 2, none⟩ = some (.int .i64 x.2.2) ∧ W.cell? ⟨g, q * 3, none⟩ = some (.int .i64 y.1) ∧ W.cell? ⟨g, q * 3 + 1, none⟩ = some (.int .i64 y.2.1) ∧ W.cell? ⟨g, q * 3 + 2, none⟩ = some (.int .i64 y.2.2)) := fun W hW => HSF.out W (owns_below HW2.out hW)
          have HX := Lib.hid hx
          have HY := Lib.hid hy
          have HCL : Hid (∀ W, Calls Tryz.prog 44 #[.agg #[.int .i64 x.1, .int .i64 x.2.1, .int .i64 x.2.2], .agg #[.int .i64 y.1, .int .i64 y.2.1, .int .i64 y.2.2]] W fun e w' => e = .returned (.int .i64 (cmpZ x.1 y.1)) ∧ Below W.heap.size W w') := fun W => pcmp_any x y W
          have hbz : Below wr.heap.size wr wr.drew := (Below.refl _ _).drew
          have hcm : (cmpZ x.1 y.1 < 0) = (x.1 < y.1) := by unfold cmpZ; split <;> (try split) <;> simp_all
          clear hI1 hmea hjq hx hy hp hln cx0 cx1 cx2 cy0 cy1 cy2
          obtain ⟨cm, hcm2⟩ : ∃ cm, cmpZ x.1 y.1 = cm := ⟨_, rfl⟩
          rw [hcm2] at hcm HCL
          clear hcm2
          by_cases t1 : x.1 < y.1
          · have HI2 := Lib.hid (show InnerK (fun p : Pt => p.1) l ((dj.set j y).set q x) i q by have := HX.out; rw [HJ.out] at this ⊢; exact innerK_swap HI1.out this HY.out t1)
            have hc0 : cm < 0 := by rw [hcm]; exact t1
            clear t1 hcm
            go_wp2_with fail
            (go_region_held3 (fun w' : World => w'.cell? ⟨g, j * 3, none⟩ = some (.int .i64 x.1) ∧ w'.cell? ⟨g, j * 3 + 1, none⟩ = some (.int .i64 x.2.1) ∧ w'.cell? ⟨g, j * 3 + 2, none⟩ = some (.int .i64 x.2.2) ∧ w'.cell? ⟨g, q * 3, none⟩ = some (.int .i64 y.1) ∧ w'.cell? ⟨g, q * 3 + 1, none⟩ = some (.int .i64 y.2.1) ∧ w'.cell? ⟨g, q * 3 + 2, none⟩ = some (.int .i64 y.2.2))
                  (first | (with_reducible exact HSB.out _ (by assumption)) | go_keep)
                  (first
                    | (go_simp; go_at_call 44; (with_reducible refine (HCL.out _).mono ?_)
                       rintro e' w11 ⟨rfl, hbs⟩
                       have hbz := hbz.trans (hbs.mono hbz.size)
                       clear hbs)))
            have HWQ := Lib.hid (owns_below HW2.out hbz)
            have HGQ : Hid (w.grownBy w11 (some g)) := grown_then_below HG2.out (hbz.mono HG2.out.size)
            obtain ⟨d1, d2, d3, d4, d5, d6⟩ := HSF.out _ HWQ.out
            have g1 := owns_frozen HWQ.out (j * 3); have g2 := owns_frozen HWQ.out (j * 3 + 1); have g3 := owns_frozen HWQ.out (j * 3 + 2)
            have g4 := owns_frozen HWQ.out (q * 3); have g5 := owns_frozen HWQ.out (q * 3 + 1); have g6 := owns_frozen HWQ.out (q * 3 + 2)
            clear c1 c2 c3 c4 c5 c6 HSF HSB HCL hbz HW2 HG2 HX HY
            have hj2 := HJ.out
            subst hj2
            go_wp2_with fail
            go_region
            go_wp2
            exact ⟨⟨q, _, hqi, rfl, HI2, (show _ from owns_putT (owns_putT HWQ.out)), grown_drew (grown_set (grown_set (grown_set (grown_set (grown_set (grown_set HGQ.out _) _) _) _) _) _)⟩, by have := HMEA.out; simp only [intOf]; omega⟩
          · have HE := Lib.hid (show OuterK (fun p : Pt => p.1) l dj (i + 1) from innerK_end HI1.out (.inr ⟨q, x, y, rfl, by have := HX.out; rw [HJ.out] at this; exact this, HY.out, t1⟩))
            have hc0 : ¬ cm < 0 := by rw [hcm]; exact t1
            clear t1 hcm
            go_wp2_with fail
            (go_region_held3 (fun w' : World => w'.cell? ⟨g, j * 3, none⟩ = some (.int .i64 x.1) ∧ w'.cell? ⟨g, j * 3 + 1, none⟩ = some (.int .i64 x.2.1) ∧ w'.cell? ⟨g, j * 3 + 2, none⟩ = some (.int .i64 x.2.2) ∧ w'.cell? ⟨g, q * 3, none⟩ = some (.int .i64 y.1) ∧ w'.cell? ⟨g, q * 3 + 1, none⟩ = some (.int .i64 y.2.1) ∧ w'.cell? ⟨g, q * 3 + 2, none⟩ = some (.int .i64 y.2.2))
                  (first | (with_reducible exact HSB.out _ (by assumption)) | go_keep)
                  (first
                    | (go_simp; go_at_call 44; (with_reducible refine (HCL.out _).mono ?_)
                       rintro e' w11 ⟨rfl, hbs⟩
                       have hbz := hbz.trans (hbs.mono hbz.size)
                       clear hbs)))
            have HWQ := Lib.hid (owns_below HW2.out hbz)
            have HGQ : Hid (w.grownBy w11 (some g)) := grown_then_below HG2.out (hbz.mono HG2.out.size)
            clear c1 c2 c3 c4 c5 c6 HSF HSB HCL hbz HW2 HG2 HX HY
            go_wp2
            exact ⟨⟨i + 1, dj, by omega, by omega, by go_num, HE, HWQ, HGQ⟩, by simp [intOf]; omega⟩
    · have hin : ¬ (i : Int) < (n : Int) := by omega
      have ho : SortK (fun p : Pt => p.1) l dk := by
        have hp := HO.out.1.perm.length_eq
        have h := HO.out
        rcases (show i = n ∨ n ≤ 1 by omega) with rfl | h1
        · rw [HN.out] at h; exact outerK_end h
        · refine ⟨h.1, ?_⟩
          have h2 := h.2
          rw [List.take_of_length_le (by have := HN.out; omega)] at h2
          exact h2
      have HSO := Lib.hid ho
      clear ho hi
      go_wp2
      go_end0
      exact ⟨rfl, dk, HSO.out, HW.out, HG.out⟩

end Go.Proofs.YtkkoooagamadjaaGreatDoor

namespace Go.Proofs.YtkkoooagamadjaaGreatDoor
open Go.RowKit

set_option maxHeartbeats 1000000 in
theorem insT_any (base : Nat) (v : Value) (l : List Pt) (w : World) (hown : w.ownsRow base 51 3 v l.length (cellsT l)) (hl : l.length ≤ 8388608) :
    Calls Tryz.prog 104 #[v, .int .i64 0, .int .i64 l.length, .func (.func 44) #[] #[]] w fun e w' => e = .returned (.tuple #[]) ∧ ∃ l', SortK (fun p : Pt => p.1) l l' ∧ w'.ownsRow base 51 3 v l.length (cellsT l') ∧ w.grownBy w' v.ownBlock := by
  have hown' := hown
  rcases hown.2 with ⟨rfl, h0⟩ | ⟨g, cap, cur, rfl, hb, hg, hn, _⟩
  · have hl0 : l = [] := List.length_eq_zero_iff.1 h0
    subst hl0
    go_enter Tryz.func104, Tryz.ntmps104
    go_wp2
    refine wp_loop_rounds 1 ?_
    rw [rounds_succ]
    go_wp2
    go_end0
    exact ⟨rfl, [], sortK_short (by simp), hown', ⟨rfl, rfl, rfl, Nat.le_refl _, fun _ _ _ => rfl⟩⟩
  · exact (insT_run g l.length cap base l w rfl hl hown').mono fun e w' ⟨h1, l', h2, h3, h4⟩ => ⟨h1, l', h2, h3, h4⟩

set_option maxRecDepth 100000 in
set_option maxHeartbeats 1000000 in
theorem stableT_any (base : Nat) (v : Value) (l : List Pt) (w : World) (hown : w.ownsRow base 51 3 v l.length (cellsT l)) (hl : l.length ≤ 19) :
    Calls Tryz.prog 76 #[v, .int .i64 l.length, .func (.func 44) #[] #[]] w fun e w' => e = .returned (.tuple #[]) ∧ ∃ l', SortK (fun p : Pt => p.1) l l' ∧ w'.ownsRow base 51 3 v l.length (cellsT l') ∧ w.grownBy w' v.ownBlock := by
  have HI := Lib.hid (insT_any base v l w hown (by omega))
  obtain ⟨ad, cap, hv⟩ := owns_len hown
  obtain ⟨n, hn⟩ : ∃ n, l.length = n := ⟨_, rfl⟩
  rw [hn] at hl HI hv ⊢
  subst hv
  clear hown hn
  have h1 : ¬ (20 : Int) ≤ (n : Int) := by omega
  have h2 : ¬ (20 : Int) < (n : Int) := by omega
  have h3 : ¬ 20 ≤ n := by omega
  have h4 : ¬ 20 < n := by omega
  go_enter Tryz.func76, Tryz.ntmps76
  go_wp2_with fail
  refine wp_loop_rounds 1 ?_
  rw [rounds_succ]
  go_wp2_with fail
  refine HI.out.mono ?_
  rintro e w' ⟨rfl, l', q1, q2, q3⟩
  have H1 := Lib.hid q1; have H2 := Lib.hid q2; have H3 := Lib.hid q3
  clear q1 q2 q3
  go_wp2_with fail
  refine wp_loop_rounds 1 ?_
  rw [rounds_succ]
  go_wp2
  first
  | ((try simp only [Exit.inBlock, Exit.then]); refine bodyPost_ret (results_none rfl _ _ _) rfl ?_)
  | go_end0
  exact ⟨rfl, l', H1.out, H2.out, H3.out⟩

set_option maxRecDepth 100000 in
set_option maxHeartbeats 1000000 in
theorem sortStable_any (base : Nat) (v : Value) (l : List Pt) (w : World) (hown : w.ownsRow base 51 3 v l.length (cellsT l)) (hl : l.length ≤ 19) :
    Calls Tryz.prog 43 #[v, .func (.func 44) #[] #[]] w fun e w' => e = .returned (.tuple #[]) ∧ ∃ l', SortK (fun p : Pt => p.1) l l' ∧ w'.ownsRow base 51 3 v l.length (cellsT l') ∧ w.grownBy w' v.ownBlock := by
  have HI := Lib.hid (stableT_any base v l w hown hl)
  obtain ⟨ad, cap, hv⟩ := owns_len hown
  obtain ⟨n, hn⟩ : ∃ n, l.length = n := ⟨_, rfl⟩
  rw [hn] at hl HI hv ⊢
  subst hv
  clear hown hn
  go_enter Tryz.func43, Tryz.ntmps43
  go_wp2_with fail
  refine HI.out.mono ?_
  rintro e w' ⟨rfl, l', q1, q2, q3⟩
  have H1 := Lib.hid q1; have H2 := Lib.hid q2; have H3 := Lib.hid q3
  clear q1 q2 q3
  go_wp2
  go_end0
  exact ⟨rfl, l', H1.out, H2.out, H3.out⟩

end Go.Proofs.YtkkoooagamadjaaGreatDoor
