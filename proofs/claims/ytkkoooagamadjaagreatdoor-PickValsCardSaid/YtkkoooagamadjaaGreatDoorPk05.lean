/- sorted of package halve: an insertion sort of pairs, for every list of up to 2^32 pairs that the caller owns. slices.Delete of one element, at []int and at []api.Class, of a slice that the caller owns. -/
import Derived.Test.YtkkoooagamadjaaGreatDoorPk04
import Derived.BigRegion
import Derived.Deep.RegionLaw

namespace Go.Proofs.YtkkoooagamadjaaGreatDoor
open Go.RowKit

def leP (a b : Int × Int) : Prop := a.1 < b.1 ∨ (a.1 = b.1 ∧ a.2 ≤ b.2)
def ltP (a b : Int × Int) : Prop := a.1 < b.1 ∨ (a.1 = b.1 ∧ a.2 < b.2)
theorem leP_of_not {a b : Int × Int} (h : ¬ ltP a b) : leP b a := by unfold ltP at h; unfold leP; omega
theorem leP_trans {a b c : Int × Int} (h : leP a b) (k : leP b c) : leP a c := by unfold leP at *; omega

theorem cellsP_get (l : List (Int × Int)) (k : Nat) (x : Int × Int) (h : l[k]? = some x) : (cellsP l)[k * 2]? = some (.int .i64 x.1) ∧ (cellsP l)[k * 2 + 1]? = some (.int .i64 x.2) := by
  induction l generalizing k with
  | nil => simp at h
  | cons p r ih =>
    cases k with
    | zero => simp at h; subst h; simp [cellsP]
    | succ k =>
      obtain ⟨h1, h2⟩ := ih k (by simpa using h)
      have e1 : (k + 1) * 2 = k * 2 + 1 + 1 := by omega
      rw [e1]
      simp only [cellsP, List.flatMap_cons, List.cons_append, List.nil_append, List.getElem?_cons_succ] at *
      exact ⟨h1, h2⟩

/-- a store into a row that is owned -/
theorem owns_set {w : World} {base : Nat} {e : TypeId} {size g n cap : Nat} {xs : List Value} (h : w.ownsRow base e size (.slice (some ⟨g, 0, none⟩) n cap) n xs) (j : Nat) (u : Value) :
    (w.setCell ⟨g, j, none⟩ u).ownsRow base e size (.slice (some ⟨g, 0, none⟩) n cap) n (xs.set j u) := by
  rcases h.2 with ⟨h0, _⟩ | ⟨g', cap', cur, hv, hb, hg, hn, hm, hs, ht⟩
  · cases h0
  · cases hv
    refine ⟨by rw [List.length_set]; exact h.1, .inr ⟨g, cap, cur.setIfInBounds j u, rfl, hb, ?_, hn, hm, by simpa using hs, ?_⟩⟩
    · obtain ⟨hlt, hk⟩ := Array.getElem?_eq_some_iff.1 hg
      show (w.heap.modify g _)[g]? = _
      rw [Array.getElem?_eq_getElem (by rw [Array.size_modify]; exact hlt), Array.getElem_modify_self, hk]
      simp
    · rw [Array.toList_setIfInBounds, List.take_set, ht]

theorem cellsP_set (l : List (Int × Int)) (k : Nat) (x : Int × Int) : cellsP (l.set k x) = ((cellsP l).set (k * 2) (.int .i64 x.1)).set (k * 2 + 1) (.int .i64 x.2) := by
  induction l generalizing k with
  | nil => simp [cellsP]
  | cons p r ih =>
    cases k with
    | zero => simp [cellsP]
    | succ k =>
      have e1 : (k + 1) * 2 = k * 2 + 1 + 1 := by omega
      rw [List.set_cons_succ, e1]
      simp only [cellsP, List.flatMap_cons, List.cons_append, List.nil_append, List.set_cons_succ] at *
      rw [ih]

/-- the state of the sort: the first i stand in order -/
def Outer (l dk : List (Int × Int)) (i : Nat) : Prop := dk.Perm l ∧ dk.length = l.length ∧ (dk.take i).Pairwise leP
/-- within a round: x sinks -/
def Inner (l dk : List (Int × Int)) (i k : Nat) : Prop :=
  ∃ A x B C, dk = A ++ x :: B ++ C ∧ A.length = k ∧ A.length + B.length = i ∧ dk.Perm l ∧ (A ++ B).Pairwise leP ∧ ∀ b ∈ B, leP x b

theorem owns_frozen {w : World} {base : Nat} {e : TypeId} {size g n cap : Nat} {xs : List Value} (h : w.ownsRow base e size (.slice (some ⟨g, 0, none⟩) n cap) n xs) (j : Nat) : w.frozen? ⟨g, j, none⟩ = false := by
  rcases h.2 with ⟨h0, _⟩ | ⟨g', cap', cur, hv, hb, hg, hn, hm, hs, ht⟩
  · cases h0
  · cases hv
    simp [World.frozen?, hg]

theorem inner_start {l dk : List (Int × Int)} {i : Nat} (h : Outer l dk i) (hi : i < l.length) : Inner l dk i i := by
  obtain ⟨h1, h2, h3⟩ := h
  have hi' : i < dk.length := by omega
  refine ⟨dk.take i, dk[i], [], dk.drop (i + 1), ?_, by simp; omega, by simp; omega, h1, by simpa using h3, by simp⟩
  rw [List.append_assoc]
  conv => lhs; rw [← List.take_append_drop i dk]
  rw [List.drop_eq_getElem_cons hi']
  rfl

theorem inner_get {l dj : List (Int × Int)} {i q : Nat} (h : Inner l dj i (q + 1)) : ∃ A y x B C, dj = A ++ y :: x :: B ++ C ∧ A.length = q ∧ A.length + 1 + B.length = i ∧ dj.Perm l ∧ ((A ++ [y]) ++ B).Pairwise leP ∧ (∀ b ∈ B, leP x b) ∧ dj[q + 1]? = some x ∧ dj[q]? = some y := by
  obtain ⟨A0, x, B, C, rfl, hl, hi, hp, hs, hb⟩ := h
  obtain ⟨A, y, rfl⟩ : ∃ A y, A0 = A ++ [y] := by
    rcases List.eq_nil_or_concat A0 with rfl | ⟨A, y, rfl⟩
    · simp at hl
    · exact ⟨A, y, by simp⟩
  have hq : A.length = q := by simpa using hl
  refine ⟨A, y, x, B, C, by simp, hq, by simpa using hi, hp, hs, hb, ?_, ?_⟩
  · have e : A ++ [y] ++ x :: B ++ C = (A ++ [y]) ++ (x :: (B ++ C)) := by simp
    rw [e, List.getElem?_append_right (by simp; omega)]
    simp [hq]
  · have e : A ++ [y] ++ x :: B ++ C = A ++ (y :: x :: (B ++ C)) := by simp
    rw [e, List.getElem?_append_right (by omega)]
    simp [hq]

theorem inner_swap {l dj : List (Int × Int)} {i q : Nat} {x y : Int × Int} (h : Inner l dj i (q + 1)) (hx : dj[q + 1]? = some x) (hy : dj[q]? = some y) (hlt : ltP x y) : Inner l ((dj.set (q + 1) y).set q x) i q := by
  obtain ⟨A, y0, x0, B, C, rfl, hl, hi, hp, hs, hb, hx0, hy0⟩ := inner_get h
  rw [hx0] at hx; rw [hy0] at hy
  cases hx; cases hy
  have e : ((A ++ y :: x :: B ++ C).set (q + 1) y).set q x = A ++ x :: (y :: B) ++ C := by
    have e1 : A ++ y :: x :: B ++ C = A ++ (y :: x :: (B ++ C)) := by simp
    rw [e1, List.set_append_right _ _ (by omega), List.set_append_right _ _ (by omega)]
    rw [show q + 1 - A.length = 0 + 1 by omega, show q - A.length = 0 by omega]
    simp
  rw [e]
  refine ⟨A, x, y :: B, C, rfl, hl, by simp; omega, ?_, by simpa using hs, ?_⟩
  · refine List.Perm.trans ?_ hp
    have : (A ++ x :: (y :: B) ++ C).Perm (A ++ y :: x :: B ++ C) := by
      simp only [List.append_assoc, List.cons_append]
      exact (List.Perm.swap y x (B ++ C)).append_left A
    exact this
  · intro b hb'
    rcases List.mem_cons.1 hb' with rfl | hb'
    · unfold ltP at hlt; unfold leP; omega
    · exact hb b hb'

theorem inner_end {l dj : List (Int × Int)} {i k : Nat} (h : Inner l dj i k) (hk : k = 0 ∨ ∃ q x y, k = q + 1 ∧ dj[q + 1]? = some x ∧ dj[q]? = some y ∧ ¬ ltP x y) : Outer l dj (i + 1) := by
  have fin : ∀ (A : List (Int × Int)) (x : Int × Int) (B C : List (Int × Int)), dj = A ++ x :: B ++ C → A.length + B.length = i → dj.Perm l → (A ++ B).Pairwise leP → (∀ b ∈ B, leP x b) → (∀ a ∈ A, leP a x) → Outer l dj (i + 1) := by
    intro A x B C e hi hp hs hb ha
    refine ⟨hp, hp.length_eq, ?_⟩
    have e1 : dj.take (i + 1) = A ++ x :: B := by
      rw [e, List.take_append_of_le_length (by simp; omega), List.take_of_length_le (by simp; omega)]
    rw [e1]
    obtain ⟨p1, p2, p3⟩ := List.pairwise_append.1 hs
    refine List.pairwise_append.2 ⟨p1, List.pairwise_cons.2 ⟨hb, p2⟩, fun a ha' b hb' => ?_⟩
    rcases List.mem_cons.1 hb' with rfl | hb'
    · exact ha a ha'
    · exact p3 a ha' b hb'
  rcases hk with rfl | ⟨q, x, y, rfl, hx, hy, hn⟩
  · obtain ⟨A, x, B, C, e, hl, hi, hp, hs, hb⟩ := h
    obtain rfl : A = [] := List.length_eq_zero_iff.1 hl
    exact fin [] x B C e hi hp hs hb (by simp)
  · obtain ⟨A, y0, x0, B, C, e, hl, hi, hp, hs, hb, hx0, hy0⟩ := inner_get h
    rw [hx0] at hx; rw [hy0] at hy
    cases hx; cases hy
    have hyx := leP_of_not hn
    refine fin (A ++ [y]) x B C (by rw [e]; simp) (by simp; omega) hp hs hb ?_
    intro a ha
    rcases List.mem_append.1 ha with h1 | h1
    · obtain ⟨p1, _, _⟩ := List.pairwise_append.1 hs
      obtain ⟨_, _, p3⟩ := List.pairwise_append.1 p1
      exact leP_trans (p3 a h1 y (by simp)) hyx
    · simp at h1; subst h1; exact hyx

theorem outer_end {l dk : List (Int × Int)} (h : Outer l dk l.length) : SortP l dk := by
  obtain ⟨h1, h2, h3⟩ := h
  rw [List.take_of_length_le (by omega)] at h3
  exact ⟨h1, h3⟩

theorem owns_swap {w : World} {base : Nat} {e : TypeId} {g n cap q : Nat} {dj : List (Int × Int)} {x y : Int × Int} (h : w.ownsRow base e 2 (.slice (some ⟨g, 0, none⟩) n cap) n (cellsP dj)) :
    ((((w.setCell ⟨g, (q + 1) * 2, none⟩ (.int .i64 y.1)).setCell ⟨g, (q + 1) * 2 + 1, none⟩ (.int .i64 y.2)).setCell ⟨g, q * 2, none⟩ (.int .i64 x.1)).setCell ⟨g, q * 2 + 1, none⟩ (.int .i64 x.2)).drew.ownsRow base e 2 (.slice (some ⟨g, 0, none⟩) n cap) n (cellsP ((dj.set (q + 1) y).set q x)) := by
  rw [cellsP_set, cellsP_set]
  exact owns_set (owns_set (owns_set (owns_set h _ _) _ _) _ _) _ _

theorem grown_set {w wr : World} {g j : Nat} (h : w.grownBy wr (some g)) (v : Value) : w.grownBy (wr.setCell ⟨g, j, none⟩ v) (some g) :=
  ⟨h.os, h.tape, h.output, Nat.le_trans h.size (KeepsWalks.setCell wr _ v).size, fun k hk hne => (Below.heap_setCell _ _ _ k (fun e => hne (by rw [e]))).trans (h.block k hk hne)⟩

theorem grown_drew {w wr : World} {row : Option Nat} (h : w.grownBy wr row) : w.grownBy wr.drew row := ⟨h.os, h.tape, h.output, h.size, h.block⟩

set_option maxRecDepth 100000 in
set_option maxHeartbeats 4000000 in
theorem sorted_run (g n cap base : Nat) (l : List (Int × Int)) (w : World) (hn : n = l.length) (hn2 : n ≤ 8388608)
    (hown : w.ownsRow base 98 2 (.slice (some ⟨g, 0, none⟩) n cap) n (cellsP l)) :
    Calls Tryz.prog 113 #[.slice (some ⟨g, 0, none⟩) n cap] w fun e w' => e = .returned (.tuple #[]) ∧ ∃ l', SortP l l' ∧ w'.ownsRow base 98 2 (.slice (some ⟨g, 0, none⟩) n cap) n (cellsP l') ∧ w.grownBy w' (some g) := by
  have HN := Lib.hid hn
  clear hn
  go_enter Tryz.func113, Tryz.ntmps113
  go_wp2
  go_loopw [2, 3, 6] (fun _ _ i wr => ∃ (k : Nat) (dk : List (Int × Int)), k ≤ n ∧ i = .int .i64 k ∧ Hid (Outer l dk k) ∧ Hid (wr.ownsRow base 98 2 (.slice (some ⟨g, 0, none⟩) n cap) n (cellsP dk)) ∧ Hid (w.grownBy wr (some g))) (fun _ _ i _ => n - (intOf i).toNat)
  case atStart => exact ⟨0, l, Nat.zero_le _, rfl, ⟨List.Perm.refl _, rfl, by simp⟩, hown, ⟨rfl, rfl, rfl, Nat.le_refl _, fun _ _ _ => rfl⟩⟩
  case round =>
    obtain ⟨i, dk, hi, rfl, HO, HW, HG⟩ := hrel
    by_cases hlt : i < n
    · have HS := Lib.hid (inner_start HO.out (by rw [← HN.out]; exact hlt))
      go_wp2
      go_loopw [3] (fun k wr => ∃ (j : Nat) (dj : List (Int × Int)), j ≤ i ∧ k = .int .i64 j ∧ Hid (Inner l dj i j) ∧ Hid (wr.ownsRow base 98 2 (.slice (some ⟨g, 0, none⟩) n cap) n (cellsP dj)) ∧ Hid (w.grownBy wr (some g))) (fun k _ => (intOf k).toNat)
      case atStart => exact ⟨i, dk, Nat.le_refl _, rfl, HS, HW, HG⟩
      case round =>
        obtain ⟨j, dj, hj, rfl, HI, HW2, HG2⟩ := hrel
        by_cases hj0 : j = 0
        · subst hj0
          rw [show ((0 : Nat) : Int) = 0 from rfl]
          have HE := Lib.hid (inner_end HI.out (.inl rfl))
          have z1 : decide ((0 : Int) < 0) = false := by decide
          go_wp2_with fail
          go_quiet (fail)
          generalize hwq : wr.drewN nq = wq
          have HWQ : Hid (wq.ownsRow base 98 2 (.slice (some ⟨g, 0, none⟩) n cap) n (cellsP dj)) := by rw [← hwq]; exact HW2
          have HGQ : Hid (w.grownBy wq (some g)) := by rw [← hwq]; exact ⟨HG2.out.os, HG2.out.tape, HG2.out.output, HG2.out.size, HG2.out.block⟩
          clear hwq
          go_wp2
          exact ⟨⟨i + 1, dj, by omega, by go_num, HE, HWQ, HGQ⟩, by simp [intOf]; omega⟩
        · obtain ⟨q, rfl⟩ : ∃ q, j = q + 1 := ⟨j - 1, by omega⟩
          obtain ⟨A, y, x, B, C, _, _, _, hp, _, _, hx, hy⟩ := inner_get HI.out
          have hln : dj.length = n := by rw [hp.length_eq, HN.out]
          have cx := cellsP_get _ _ _ hx
          have cy := cellsP_get _ _ _ hy
          have p1 : ((q + 1 : Nat) : Int) < (n : Int) := by omega
          have p2 : (0 : Int) < ((q + 1 : Nat) : Int) := by omega
          have p3 : ((q + 1 : Nat) : Int) - 1 < (n : Int) := by omega
          have c1 : wr.cell? ⟨g, (q + 1) * 2, none⟩ = some (.int .i64 x.1) := by rw [HW2.out.cellAt _ (by omega)]; exact cx.1
          have c2 : wr.cell? ⟨g, (q + 1) * 2 + 1, none⟩ = some (.int .i64 x.2) := by rw [HW2.out.cellAt _ (by omega)]; exact cx.2
          have c3 : wr.cell? ⟨g, q * 2, none⟩ = some (.int .i64 y.1) := by rw [HW2.out.cellAt _ (by omega)]; exact cy.1
          have c4 : wr.cell? ⟨g, q * 2 + 1, none⟩ = some (.int .i64 y.2) := by rw [HW2.out.cellAt _ (by omega)]; exact cy.2
          have f1 := owns_frozen HW2.out ((q + 1) * 2)
          have f2 := owns_frozen HW2.out ((q + 1) * 2 + 1)
          have f3 := owns_frozen HW2.out (q * 2)
          have f4 := owns_frozen HW2.out (q * 2 + 1)
          have HX := Lib.hid hx
          have HY := Lib.hid hy
          clear cx cy hx hy hp hln
          by_cases t1 : x.1 < y.1
          · have HI2 := Lib.hid (inner_swap HI.out HX.out HY.out (.inl t1))
            go_wp2_with fail
            go_quiet (fail)
            generalize hwq : wr.drewN nq = wq
            have d1 : wq.cell? ⟨g, (q + 1) * 2, none⟩ = some (.int .i64 x.1) := by rw [← hwq, World.cell?_drewN]; exact c1
            have d2 : wq.cell? ⟨g, (q + 1) * 2 + 1, none⟩ = some (.int .i64 x.2) := by rw [← hwq, World.cell?_drewN]; exact c2
            have d3 : wq.cell? ⟨g, q * 2, none⟩ = some (.int .i64 y.1) := by rw [← hwq, World.cell?_drewN]; exact c3
            have d4 : wq.cell? ⟨g, q * 2 + 1, none⟩ = some (.int .i64 y.2) := by rw [← hwq, World.cell?_drewN]; exact c4
            have g1 : wq.frozen? ⟨g, (q + 1) * 2, none⟩ = false := by rw [← hwq, World.frozen?_drewN]; exact f1
            have g2 : wq.frozen? ⟨g, (q + 1) * 2 + 1, none⟩ = false := by rw [← hwq, World.frozen?_drewN]; exact f2
            have g3 : wq.frozen? ⟨g, q * 2, none⟩ = false := by rw [← hwq, World.frozen?_drewN]; exact f3
            have g4 : wq.frozen? ⟨g, q * 2 + 1, none⟩ = false := by rw [← hwq, World.frozen?_drewN]; exact f4
            have HWQ : Hid (wq.ownsRow base 98 2 (.slice (some ⟨g, 0, none⟩) n cap) n (cellsP dj)) := by rw [← hwq]; exact HW2
            have HGQ : Hid (w.grownBy wq (some g)) := by rw [← hwq]; exact ⟨HG2.out.os, HG2.out.tape, HG2.out.output, HG2.out.size, HG2.out.block⟩
            clear c1 c2 c3 c4 f1 f2 f3 f4 hwq
            go_wp2
            go_region
            go_wp2
            exact ⟨⟨q, _, by omega, rfl, HI2, owns_swap HWQ.out, grown_drew (grown_set (grown_set (grown_set (grown_set HGQ.out _) _) _) _)⟩, by simp [intOf]⟩
          · have t1' : decide (x.1 < y.1) = false := decide_eq_false t1
            by_cases t2 : x.1 = y.1
            · have t2' : (x.1 == y.1) = true := by simp [t2]
              by_cases t3 : x.2 < y.2
              · have HI2 := Lib.hid (inner_swap HI.out HX.out HY.out (.inr ⟨t2, t3⟩))
                clear t2
                go_wp2_with fail
                go_quiet (fail)
                generalize hwq : wr.drewN nq = wq
                have d1 : wq.cell? ⟨g, (q + 1) * 2, none⟩ = some (.int .i64 x.1) := by rw [← hwq, World.cell?_drewN]; exact c1
                have d2 : wq.cell? ⟨g, (q + 1) * 2 + 1, none⟩ = some (.int .i64 x.2) := by rw [← hwq, World.cell?_drewN]; exact c2
                have d3 : wq.cell? ⟨g, q * 2, none⟩ = some (.int .i64 y.1) := by rw [← hwq, World.cell?_drewN]; exact c3
                have d4 : wq.cell? ⟨g, q * 2 + 1, none⟩ = some (.int .i64 y.2) := by rw [← hwq, World.cell?_drewN]; exact c4
                have g1 : wq.frozen? ⟨g, (q + 1) * 2, none⟩ = false := by rw [← hwq, World.frozen?_drewN]; exact f1
                have g2 : wq.frozen? ⟨g, (q + 1) * 2 + 1, none⟩ = false := by rw [← hwq, World.frozen?_drewN]; exact f2
                have g3 : wq.frozen? ⟨g, q * 2, none⟩ = false := by rw [← hwq, World.frozen?_drewN]; exact f3
                have g4 : wq.frozen? ⟨g, q * 2 + 1, none⟩ = false := by rw [← hwq, World.frozen?_drewN]; exact f4
                have HWQ : Hid (wq.ownsRow base 98 2 (.slice (some ⟨g, 0, none⟩) n cap) n (cellsP dj)) := by rw [← hwq]; exact HW2
                have HGQ : Hid (w.grownBy wq (some g)) := by rw [← hwq]; exact ⟨HG2.out.os, HG2.out.tape, HG2.out.output, HG2.out.size, HG2.out.block⟩
                clear c1 c2 c3 c4 f1 f2 f3 f4 hwq
                go_wp2
                go_region
                go_wp2
                exact ⟨⟨q, _, by omega, rfl, HI2, owns_swap HWQ.out, grown_drew (grown_set (grown_set (grown_set (grown_set HGQ.out _) _) _) _)⟩, by simp [intOf]⟩
              · have t3' : decide (x.2 < y.2) = false := decide_eq_false t3
                have HE := Lib.hid (inner_end HI.out (.inr ⟨q, x, y, rfl, HX.out, HY.out, by unfold ltP; omega⟩))
                clear t2
                go_wp2_with fail
                go_quiet (fail)
                generalize hwq : wr.drewN nq = wq
                have HWQ : Hid (wq.ownsRow base 98 2 (.slice (some ⟨g, 0, none⟩) n cap) n (cellsP dj)) := by rw [← hwq]; exact HW2
                have HGQ : Hid (w.grownBy wq (some g)) := by rw [← hwq]; exact ⟨HG2.out.os, HG2.out.tape, HG2.out.output, HG2.out.size, HG2.out.block⟩
                clear hwq
                go_wp2
                exact ⟨⟨i + 1, dj, by omega, by go_num, HE, HWQ, HGQ⟩, by simp [intOf]; omega⟩
            · have t2' : (x.1 == y.1) = false := by simp [t2]
              have HE := Lib.hid (inner_end HI.out (.inr ⟨q, x, y, rfl, HX.out, HY.out, by unfold ltP; omega⟩))
              clear t2
              go_wp2_with fail
              go_quiet (fail)
              generalize hwq : wr.drewN nq = wq
              have HWQ : Hid (wq.ownsRow base 98 2 (.slice (some ⟨g, 0, none⟩) n cap) n (cellsP dj)) := by rw [← hwq]; exact HW2
              have HGQ : Hid (w.grownBy wq (some g)) := by rw [← hwq]; exact ⟨HG2.out.os, HG2.out.tape, HG2.out.output, HG2.out.size, HG2.out.block⟩
              clear hwq
              go_wp2
              exact ⟨⟨i + 1, dj, by omega, by go_num, HE, HWQ, HGQ⟩, by simp [intOf]; omega⟩
    · obtain rfl : i = n := by omega
      go_wp2
      go_end0
      have ho := HO.out
      rw [HN.out] at ho
      exact ⟨rfl, dk, outer_end ho, HW.out, HG.out⟩

set_option maxHeartbeats 400000 in
/-- sorted, for every list that the caller owns -/
theorem sorted_any (base : Nat) (v : Value) (l : List (Int × Int)) (w : World) (hown : w.ownsRow base 98 2 v l.length (cellsP l)) (hl : l.length ≤ 8388608) :
    Calls Tryz.prog 113 #[v] w fun e w' => e = .returned (.tuple #[]) ∧ ∃ l', SortP l l' ∧ w'.ownsRow base 98 2 v l.length (cellsP l') ∧ w.grownBy w' v.ownBlock := by
  have hown' := hown
  rcases hown.2 with ⟨rfl, h0⟩ | ⟨g, cap, cur, rfl, hb, hg, hn, _⟩
  · have hl0 : l = [] := List.length_eq_zero_iff.1 h0
    subst hl0
    go_enter Tryz.func113, Tryz.ntmps113
    go_wp2
    refine wp_loop_rounds 1 ?_
    rw [rounds_succ]
    go_wp2
    go_end0
    exact ⟨rfl, [], ⟨List.Perm.refl _, List.Pairwise.nil⟩, hown', ⟨rfl, rfl, rfl, Nat.le_refl _, fun _ _ _ => rfl⟩⟩
  · exact (sorted_run g l.length cap base l w rfl hl hown').mono fun e w' ⟨h1, l', h2, h3, h4⟩ => ⟨h1, l', h2, h3, h4⟩

end Go.Proofs.YtkkoooagamadjaaGreatDoor

namespace Go.Proofs.YtkkoooagamadjaaGreatDoor
open Go.RowKit

def setAll (xs : List Value) : Nat → List Value → List Value
  | _, [] => xs
  | o, v :: r => setAll (xs.set o v) (o + 1) r

theorem setAll_eq (vs : List Value) : ∀ (xs : List Value) (o : Nat), o + vs.length ≤ xs.length → setAll xs o vs = xs.take o ++ vs ++ xs.drop (o + vs.length) := by
  induction vs with
  | nil => intro xs o _; simp [setAll]
  | cons v r ih =>
    intro xs o h
    simp only [List.length_cons] at h
    rw [setAll, ih _ _ (by rw [List.length_set]; omega)]
    rw [List.take_set, List.drop_set_of_lt (by omega)]
    have e1 : (xs.take (o + 1)).set o v = xs.take o ++ [v] := by
      rw [List.take_succ_eq_append_getElem (by omega), List.set_append_right _ _ (by simp; omega)]
      simp [Nat.min_eq_left (show o ≤ xs.length by omega)]
    rw [e1]
    simp only [List.append_assoc, List.cons_append, List.nil_append, List.length_cons]
    rw [show o + 1 + r.length = o + (r.length + 1) by omega]

theorem owns_setCells {base : Nat} {e : TypeId} {size g n cap : Nat} (vs : List Value) : ∀ {w : World} {xs : List Value} (o : Nat), w.ownsRow base e size (.slice (some ⟨g, 0, none⟩) n cap) n xs →
    (w.setCells g o vs).ownsRow base e size (.slice (some ⟨g, 0, none⟩) n cap) n (setAll xs o vs) := by
  induction vs with
  | nil => intro w xs o h; exact h
  | cons v r ih => intro w xs o h; exact ih (o + 1) (owns_set h o v)

theorem owns_shrink {w : World} {base : Nat} {e : TypeId} {size g n cap m : Nat} {xs : List Value} (h : w.ownsRow base e size (.slice (some ⟨g, 0, none⟩) n cap) n xs) (hm : m ≤ n) : w.ownsRow base e size (.slice (some ⟨g, 0, none⟩) m cap) m (xs.take (m * size)) := by
  have hmn : m * size ≤ n * size := Nat.mul_le_mul_right _ hm
  rcases h.2 with ⟨h0, _⟩ | ⟨g', cap', cur, hv, hb, hg, hn, hc, hs, ht⟩
  · cases h0
  · cases hv
    exact ⟨by rw [List.length_take, h.1]; omega, .inr ⟨g, cap, cur, rfl, hb, hg, by omega, hc, hs, by rw [← ht, List.take_take, Nat.min_eq_left hmn]⟩⟩

theorem grown_setCells {w : World} {g : Nat} (vs : List Value) : ∀ {wr : World} (o : Nat), w.grownBy wr (some g) → w.grownBy (wr.setCells g o vs) (some g) := by
  induction vs with
  | nil => intro wr o h; exact h
  | cons v r ih => intro wr o h; exact ih (o + 1) (grown_set h v)

theorem owns_drew {w : World} {base : Nat} {e : TypeId} {size n : Nat} {v : Value} {xs : List Value} (h : w.ownsRow base e size v n xs) : w.drew.ownsRow base e size v n xs := h

theorem info_class : (Tryz.prog.info? 47).map (fun i => (i.zero, i.size, i.bytes)) = some (some (.agg #[.int .i64 0, .int .i64 0]), 2, 16) := by kernel_rfl
theorem info_int' : (Tryz.prog.info? 3).map (fun i => (i.zero, i.size, i.bytes)) = some (some (.int .i64 0), 1, 8) := by kernel_rfl

/-- clear of one element -/
theorem run_clear_one {P : Program} (w : World) (t e ty : TypeId) (z : Value) (zc : List Value) (ht : P.underlying t = some (.slice e)) (hv : (zeroValue e).run P w = .ok z w) (hz : (Builtin.zeroCells z.cells 1).toList = zc) (h1 : ∀ v ∈ zc, v.oneCell' = true) (b o c : Nat)
    (hc : ∀ j, j < zc.length → (w.cell? ⟨b, o + j, none⟩).isSome = true) (hf : ∀ j, j < zc.length → w.frozen? ⟨b, o + j, none⟩ = false) :
    (Builtin.clear_ #[t] ty #[.slice (some ⟨b, o, none⟩) 1 c]).run P w = .ok (.tuple #[]) (w.setCells b o zc) := by
  have hst := run_storeCells_cells (P := P) b o zc 0 w (by simpa using hc) (by simpa using hf) h1
  simp only [Nat.add_zero] at hst
  simp [Builtin.clear_, run_underlying ht, hv, hz, hst]

theorem setAll_len (vs : List Value) : ∀ (xs : List Value) (o : Nat), (setAll xs o vs).length = xs.length := by
  induction vs with
  | nil => intro xs o; rfl
  | cons v r ih => intro xs o; rw [setAll, ih, List.length_set]

theorem zero_one (cs : Array Value) : (Builtin.zeroCells cs 1).toList = cs.toList := by
  apply List.ext_getElem
  · simp [Builtin.zeroCells]
  · intro i h1 h2
    simp only [Array.length_toList] at h2
    simp [Builtin.zeroCells, Nat.mod_eq_of_lt h2, h2]

theorem set_take (xs vs zc : List Value) (i o : Nat) (h1 : i + vs.length = o) (h2 : o + zc.length ≤ xs.length) : (setAll (setAll xs i vs) o zc).take o = xs.take i ++ vs := by
  rw [setAll_eq zc _ _ (by rw [setAll_len]; exact h2), setAll_eq vs xs i (by omega)]
  rw [List.append_assoc, List.take_append_of_le_length (by simp; omega), List.take_take, Nat.min_self]
  rw [List.take_append_of_le_length (by simp; omega)]
  exact List.take_of_length_le (by simp; omega)

theorem zero_class (w : World) : (zeroValue 47).run Tryz.prog w = .ok (.agg #[.int .i64 0, .int .i64 0]) w := by
  obtain ⟨i0, hi0, hz0, _⟩ := info_parts info_class
  simp [zeroValue, typeInfo, hi0, hz0]

set_option maxHeartbeats 1600000 in
set_option maxRecDepth 1000000 in
theorem del_int (g n cap base i : Nat) (xs : List Value) (w : World) (hown : w.ownsRow base 3 1 (.slice (some ⟨g, 0, none⟩) n cap) n xs) (h1c : ∀ u ∈ xs, u.oneCell' = true) (hi : i < n) (hm : cap ≤ 9223372036854775807) :
    Calls Tryz.prog 86 #[.slice (some ⟨g, 0, none⟩) n cap, .int .i64 i, .int .i64 (i + 1)] w fun e w' => e = .returned (.slice (some ⟨g, 0, none⟩) (n - 1) cap) ∧
      w'.ownsRow base 3 1 (.slice (some ⟨g, 0, none⟩) (n - 1) cap) (n - 1) (xs.take i ++ xs.drop (i + 1)) ∧ w.grownBy w' (some g) := by
  obtain ⟨i0, hi0, hz0, hz1, hz2⟩ := info_parts info_int'
  have hlen : xs.length = n := by have := hown.1; omega
  have hnc : n ≤ cap := by
    rcases hown.2 with ⟨h0, _⟩ | ⟨g', cap', cur, hv, hb, hg, hn, _⟩
    · cases h0
    · cases hv; exact hn
  obtain ⟨news, hnews⟩ : ∃ news, xs.drop (i + 1) = news := ⟨_, rfl⟩
  have hnl : news.length = n - (i + 1) := by rw [← hnews, List.length_drop, hlen]
  obtain ⟨A, hA, hnw⟩ : ∃ A : Addr, (if cap = i + 1 then some (⟨g, 0, none⟩ : Addr) else some ⟨g, i + 1, none⟩) = some A ∧ Hid (∀ j u, news[j]? = some u → w.drew.cell? (A.add j) = some u) := by
    by_cases h : cap = i + 1
    · refine ⟨⟨g, 0, none⟩, by simp [h], fun j u hu => ?_⟩
      have := (List.getElem?_eq_some_iff.1 hu).1
      omega
    · refine ⟨⟨g, i + 1, none⟩, by simp [h], fun j u hu => ?_⟩
      have hj : j < n - (i + 1) := by have := (List.getElem?_eq_some_iff.1 hu).1; omega
      rw [Addr.add_lit]
      rw [← hnews, List.getElem?_drop] at hu
      exact (hown.cellAt _ (by omega)).trans hu
  have s1 : Hid (news.length = (n - (i + 1)) * 1) := by unfold Hid; omega
  have s2 : Hid (∀ u ∈ news, u.oneCell' = true) := by unfold Hid; intro u hu; rw [← hnews] at hu; exact h1c u (List.mem_of_mem_drop hu)
  have s3 : Hid (∀ j, j < news.length → (w.drew.cell? ⟨g, 0 + i * 1 + j, none⟩).isSome = true ∧ w.drew.frozen? ⟨g, 0 + i * 1 + j, none⟩ = false) := by
    intro j hj
    refine ⟨?_, owns_frozen hown _⟩
    have e : w.drew.cell? ⟨g, 0 + i * 1 + j, none⟩ = xs[0 + i * 1 + j]? := hown.cellAt _ (by omega)
    rw [e, List.getElem?_eq_getElem (by omega)]; rfl
  have hic : i ≤ cap := by omega
  have hwr : IntKind.i64.wrap ((i : Int) + 1) = (i : Int) + 1 := by rw [IntKind.wrap_i64]; omega
  have hp0 : (0 : Int) ≤ (i : Int) + 1 := by omega
  have hp1 : (i : Int) + 1 ≤ (n : Int) := by omega
  have hp2 : ((i : Int) + 1).toNat = i + 1 := by omega
  have hne : ((i : Int) == (i : Int) + 1) = false := by simp; omega
  have hadd : i + (n - (i + 1)) = n - 1 := by omega
  have hcnt : n - (n - 1) = 1 := by omega
  have hcn : ((i : Int) + ((n - (i + 1) : Nat) : Int)) = ((n - 1 : Nat) : Int) := by omega
  have HS := Lib.hid (owns_setCells news i (owns_drew hown))
  have kc : ∀ ty, (Builtin.clear_ #[26] ty #[.slice (some ⟨g, n - 1, none⟩) 1 (cap - (n - 1))]).run Tryz.prog (w.drew.setCells g i news) = .ok (.tuple #[]) ((w.drew.setCells g i news).setCells g (n - 1) [.int .i64 0]) := fun ty =>
    run_clear_one _ _ 3 ty (.int .i64 0) [.int .i64 0] Tryz.underlying26 (Tryz.zeroValue3 _) (zero_one _) (by simp [Value.oneCell']) g (n - 1) _ (fun j hj => by
      have hj' : j < 1 := by simpa using hj
      rw [HS.out.cellAt _ (by omega), List.getElem?_eq_getElem (by rw [setAll_len]; omega)]; rfl) (fun j _ => owns_frozen HS.out _)
  have HO := Lib.hid hown
  have HN := Lib.hid hnews
  clear hown hnews h1c
  go_enter Tryz.func86, Tryz.ntmps86
  go_wp2_with fail
  go_region_law (refine step_append_room rfl (.tmp 22) (.tmp 25) 26 rfl 3 i0 1 Tryz.underlying26 hi0 hz1 g 0 i cap (by simp [Act.eval, Act.put]) A (n - (i + 1)) (cap - (i + 1)) news (by simp [Act.eval, Act.put]) s1.out hnw.out s2.out (by omega) s3.out ?_)
  go_wp2
  go_ret
  refine ⟨rfl, ?_, grown_setCells _ _ (grown_setCells _ _ (grown_drew ⟨rfl, rfl, rfl, Nat.le_refl _, fun _ _ _ => rfl⟩))⟩
  have h3 := owns_shrink (owns_setCells [.int .i64 0] (n - 1) HS.out) (show n - 1 ≤ n by omega)
  rw [Nat.mul_one] at h3
  rw [set_take xs news [.int .i64 0] _ _ (by omega) (by simp; omega)] at h3
  rw [HN.out]
  exact h3


set_option maxHeartbeats 1600000 in
set_option maxRecDepth 1000000 in
theorem del_cls (g n cap base i : Nat) (xs : List Value) (w : World) (hown : w.ownsRow base 47 2 (.slice (some ⟨g, 0, none⟩) n cap) n xs) (h1c : ∀ u ∈ xs, u.oneCell' = true) (hi : i < n) (hm : cap ≤ 9223372036854775807) :
    Calls Tryz.prog 88 #[.slice (some ⟨g, 0, none⟩) n cap, .int .i64 i, .int .i64 (i + 1)] w fun e w' => e = .returned (.slice (some ⟨g, 0, none⟩) (n - 1) cap) ∧
      w'.ownsRow base 47 2 (.slice (some ⟨g, 0, none⟩) (n - 1) cap) (n - 1) (xs.take (i * 2) ++ xs.drop ((i + 1) * 2)) ∧ w.grownBy w' (some g) := by
  obtain ⟨i0, hi0, hz0, hz1, hz2⟩ := info_parts info_class
  have hlen : xs.length = n * 2 := by have := hown.1; omega
  have hnc : n ≤ cap := by
    rcases hown.2 with ⟨h0, _⟩ | ⟨g', cap', cur, hv, hb, hg, hn, _⟩
    · cases h0
    · cases hv; exact hn
  obtain ⟨news, hnews⟩ : ∃ news, xs.drop ((i + 1) * 2) = news := ⟨_, rfl⟩
  have hnl : news.length = (n - (i + 1)) * 2 := by rw [← hnews, List.length_drop, hlen]; omega
  obtain ⟨A, hA, hnw⟩ : ∃ A : Addr, (if cap = i + 1 then some (⟨g, 0, none⟩ : Addr) else some ⟨g, (i + 1) * 2, none⟩) = some A ∧ Hid (∀ j u, news[j]? = some u → w.drew.cell? (A.add j) = some u) := by
    by_cases h : cap = i + 1
    · refine ⟨⟨g, 0, none⟩, by simp [h], fun j u hu => ?_⟩
      have := (List.getElem?_eq_some_iff.1 hu).1
      omega
    · refine ⟨⟨g, (i + 1) * 2, none⟩, by simp [h], fun j u hu => ?_⟩
      have hj : j < (n - (i + 1)) * 2 := by have := (List.getElem?_eq_some_iff.1 hu).1; omega
      rw [Addr.add_lit]
      rw [← hnews, List.getElem?_drop] at hu
      exact (hown.cellAt _ (by omega)).trans hu
  have s1 : Hid (news.length = (n - (i + 1)) * 2) := by unfold Hid; omega
  have s2 : Hid (∀ u ∈ news, u.oneCell' = true) := by unfold Hid; intro u hu; rw [← hnews] at hu; exact h1c u (List.mem_of_mem_drop hu)
  have s3 : Hid (∀ j, j < news.length → (w.drew.cell? ⟨g, 0 + i * 2 + j, none⟩).isSome = true ∧ w.drew.frozen? ⟨g, 0 + i * 2 + j, none⟩ = false) := by
    intro j hj
    refine ⟨?_, owns_frozen hown _⟩
    have e : w.drew.cell? ⟨g, 0 + i * 2 + j, none⟩ = xs[0 + i * 2 + j]? := hown.cellAt _ (by omega)
    rw [e, List.getElem?_eq_getElem (by omega)]; rfl
  have hic : i ≤ cap := by omega
  have hwr : IntKind.i64.wrap ((i : Int) + 1) = (i : Int) + 1 := by rw [IntKind.wrap_i64]; omega
  have hp0 : (0 : Int) ≤ (i : Int) + 1 := by omega
  have hp1 : (i : Int) + 1 ≤ (n : Int) := by omega
  have hp2 : ((i : Int) + 1).toNat = i + 1 := by omega
  have hne : ((i : Int) == (i : Int) + 1) = false := by simp; omega
  have hadd : i + (n - (i + 1)) = n - 1 := by omega
  have hcnt : n - (n - 1) = 1 := by omega
  have hcn : ((i : Int) + ((n - (i + 1) : Nat) : Int)) = ((n - 1 : Nat) : Int) := by omega
  have HS := Lib.hid (owns_setCells news (i * 2) (owns_drew hown))
  have kc : ∀ ty, (Builtin.clear_ #[25] ty #[.slice (some ⟨g, (n - 1) * 2, none⟩) 1 (cap - (n - 1))]).run Tryz.prog (w.drew.setCells g (i * 2) news) = .ok (.tuple #[]) ((w.drew.setCells g (i * 2) news).setCells g ((n - 1) * 2) [.int .i64 0, .int .i64 0]) := fun ty =>
    run_clear_one _ _ 47 ty (.agg #[.int .i64 0, .int .i64 0]) [.int .i64 0, .int .i64 0] Tryz.underlying25 (zero_class _) (zero_one _) (by simp [Value.oneCell']) g ((n - 1) * 2) _ (fun j hj => by
      have hj' : j < 2 := by simpa using hj
      rw [HS.out.cellAt _ (by omega), List.getElem?_eq_getElem (by rw [setAll_len]; omega)]; rfl) (fun j _ => owns_frozen HS.out _)
  have HO := Lib.hid hown
  have HN := Lib.hid hnews
  clear hown hnews h1c
  go_enter Tryz.func88, Tryz.ntmps88
  go_wp2_with fail
  go_region_law (refine step_append_room rfl (.tmp 22) (.tmp 25) 25 rfl 47 i0 2 Tryz.underlying25 hi0 hz1 g 0 i cap (by simp [Act.eval, Act.put]) A (n - (i + 1)) (cap - (i + 1)) news (by simp [Act.eval, Act.put]) s1.out hnw.out s2.out (by omega) s3.out ?_)
  go_wp2
  go_ret
  refine ⟨rfl, ?_, grown_setCells _ _ (grown_setCells _ _ (grown_drew ⟨rfl, rfl, rfl, Nat.le_refl _, fun _ _ _ => rfl⟩))⟩
  have h3 := owns_shrink (owns_setCells [.int .i64 0, .int .i64 0] ((n - 1) * 2) HS.out) (show n - 1 ≤ n by omega)
  rw [set_take xs news [.int .i64 0, .int .i64 0] _ _ (by omega) (by simp; omega)] at h3
  rw [HN.out]
  exact h3

end Go.Proofs.YtkkoooagamadjaaGreatDoor
