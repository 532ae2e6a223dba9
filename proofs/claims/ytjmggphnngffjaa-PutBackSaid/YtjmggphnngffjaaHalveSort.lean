/- sorted of package halve: an insertion sort of pairs, for every list of up to 2^32 pairs that the caller owns. -/
import Derived.Test.YtjmggphnngffjaaHalve5
import Derived.BigRegion
namespace Go.Proofs.Ytjmggphnngffjaa
open Go.RowKit

def leP (a b : Int × Int) : Prop := a.1 < b.1 ∨ (a.1 = b.1 ∧ a.2 ≤ b.2)
def ltP (a b : Int × Int) : Prop := a.1 < b.1 ∨ (a.1 = b.1 ∧ a.2 < b.2)
theorem leP_of_not {a b : Int × Int} (h : ¬ ltP a b) : leP b a := by unfold ltP at h; unfold leP; omega
theorem leP_trans {a b c : Int × Int} (h : leP a b) (k : leP b c) : leP a c := by unfold leP at *; omega

theorem cellsP_get (l : List (Int × Int)) (k : Nat) (x : Int × Int) (h : l[k]? = some x) : (cellsP l)[k * 2]? = some (.int .i64 x.1) ∧ (cellsP l)[k * 2 + 1]? = some (.int .i64 x.2) := by
  induction l generalizing k with
  | nil => simp at h
  | cons p r ih =>
    cases k with
    | zero => simp at h; subst h; simp [cellsP]
    | succ k =>
      obtain ⟨h1, h2⟩ := ih k (by simpa using h)
      have e1 : (k + 1) * 2 = k * 2 + 1 + 1 := by omega
      rw [e1]
      simp only [cellsP, List.flatMap_cons, List.cons_append, List.nil_append, List.getElem?_cons_succ] at *
      exact ⟨h1, h2⟩

/-- a store into a row that is owned -/
theorem owns_set {w : World} {base : Nat} {e : TypeId} {size g n cap : Nat} {xs : List Value} (h : w.ownsRow base e size (.slice (some ⟨g, 0, none⟩) n cap) n xs) (j : Nat) (u : Value) :
    (w.setCell ⟨g, j, none⟩ u).ownsRow base e size (.slice (some ⟨g, 0, none⟩) n cap) n (xs.set j u) := by
  rcases h.2 with ⟨h0, _⟩ | ⟨g', cap', cur, hv, hb, hg, hn, hm, hs, ht⟩
  · cases h0
  · cases hv
    refine ⟨by rw [List.length_set]; exact h.1, .inr ⟨g, cap, cur.setIfInBounds j u, rfl, hb, ?_, hn, hm, by simpa using hs, ?_⟩⟩
    · obtain ⟨hlt, hk⟩ := Array.getElem?_eq_some_iff.1 hg
      show (w.heap.modify g _)[g]? = _
      rw [Array.getElem?_eq_getElem (by rw [Array.size_modify]; exact hlt), Array.getElem_modify_self, hk]
      simp
    · rw [Array.toList_setIfInBounds, List.take_set, ht]

theorem cellsP_set (l : List (Int × Int)) (k : Nat) (x : Int × Int) : cellsP (l.set k x) = ((cellsP l).set (k * 2) (.int .i64 x.1)).set (k * 2 + 1) (.int .i64 x.2) := by
  induction l generalizing k with
  | nil => simp [cellsP]
  | cons p r ih =>
    cases k with
    | zero => simp [cellsP]
    | succ k =>
      have e1 : (k + 1) * 2 = k * 2 + 1 + 1 := by omega
      rw [List.set_cons_succ, e1]
      simp only [cellsP, List.flatMap_cons, List.cons_append, List.nil_append, List.set_cons_succ] at *
      rw [ih]

/-- the state of the sort: the first i stand in order -/
def Outer (l dk : List (Int × Int)) (i : Nat) : Prop := dk.Perm l ∧ dk.length = l.length ∧ (dk.take i).Pairwise leP
/-- within a round: x sinks -/
def Inner (l dk : List (Int × Int)) (i k : Nat) : Prop :=
  ∃ A x B C, dk = A ++ x :: B ++ C ∧ A.length = k ∧ A.length + B.length = i ∧ dk.Perm l ∧ (A ++ B).Pairwise leP ∧ ∀ b ∈ B, leP x b

theorem owns_frozen {w : World} {base : Nat} {e : TypeId} {size g n cap : Nat} {xs : List Value} (h : w.ownsRow base e size (.slice (some ⟨g, 0, none⟩) n cap) n xs) (j : Nat) : w.frozen? ⟨g, j, none⟩ = false := by
  rcases h.2 with ⟨h0, _⟩ | ⟨g', cap', cur, hv, hb, hg, hn, hm, hs, ht⟩
  · cases h0
  · cases hv
    simp [World.frozen?, hg]

theorem inner_start {l dk : List (Int × Int)} {i : Nat} (h : Outer l dk i) (hi : i < l.length) : Inner l dk i i := by
  obtain ⟨h1, h2, h3⟩ := h
  have hi' : i < dk.length := by omega
  refine ⟨dk.take i, dk[i], [], dk.drop (i + 1), ?_, by simp; omega, by simp; omega, h1, by simpa using h3, by simp⟩
  rw [List.append_assoc]
  conv => lhs; rw [← List.take_append_drop i dk]
  rw [List.drop_eq_getElem_cons hi']
  rfl

theorem inner_get {l dj : List (Int × Int)} {i q : Nat} (h : Inner l dj i (q + 1)) : ∃ A y x B C, dj = A ++ y :: x :: B ++ C ∧ A.length = q ∧ A.length + 1 + B.length = i ∧ dj.Perm l ∧ ((A ++ [y]) ++ B).Pairwise leP ∧ (∀ b ∈ B, leP x b) ∧ dj[q + 1]? = some x ∧ dj[q]? = some y := by
  obtain ⟨A0, x, B, C, rfl, hl, hi, hp, hs, hb⟩ := h
  obtain ⟨A, y, rfl⟩ : ∃ A y, A0 = A ++ [y] := by
    rcases List.eq_nil_or_concat A0 with rfl | ⟨A, y, rfl⟩
    · simp at hl
    · exact ⟨A, y, by simp⟩
  have hq : A.length = q := by simpa using hl
  refine ⟨A, y, x, B, C, by simp, hq, by simpa using hi, hp, hs, hb, ?_, ?_⟩
  · have e : A ++ [y] ++ x :: B ++ C = (A ++ [y]) ++ (x :: (B ++ C)) := by simp
    rw [e, List.getElem?_append_right (by simp; omega)]
    simp [hq]
  · have e : A ++ [y] ++ x :: B ++ C = A ++ (y :: x :: (B ++ C)) := by simp
    rw [e, List.getElem?_append_right (by omega)]
    simp [hq]

theorem inner_swap {l dj : List (Int × Int)} {i q : Nat} {x y : Int × Int} (h : Inner l dj i (q + 1)) (hx : dj[q + 1]? = some x) (hy : dj[q]? = some y) (hlt : ltP x y) : Inner l ((dj.set (q + 1) y).set q x) i q := by
  obtain ⟨A, y0, x0, B, C, rfl, hl, hi, hp, hs, hb, hx0, hy0⟩ := inner_get h
  rw [hx0] at hx; rw [hy0] at hy
  cases hx; cases hy
  have e : ((A ++ y :: x :: B ++ C).set (q + 1) y).set q x = A ++ x :: (y :: B) ++ C := by
    have e1 : A ++ y :: x :: B ++ C = A ++ (y :: x :: (B ++ C)) := by simp
    rw [e1, List.set_append_right _ _ (by omega), List.set_append_right _ _ (by omega)]
    rw [show q + 1 - A.length = 0 + 1 by omega, show q - A.length = 0 by omega]
    simp
  rw [e]
  refine ⟨A, x, y :: B, C, rfl, hl, by simp; omega, ?_, by simpa using hs, ?_⟩
  · refine List.Perm.trans ?_ hp
    have : (A ++ x :: (y :: B) ++ C).Perm (A ++ y :: x :: B ++ C) := by
      simp only [List.append_assoc, List.cons_append]
      exact (List.Perm.swap y x (B ++ C)).append_left A
    exact this
  · intro b hb'
    rcases List.mem_cons.1 hb' with rfl | hb'
    · unfold ltP at hlt; unfold leP; omega
    · exact hb b hb'

theorem inner_end {l dj : List (Int × Int)} {i k : Nat} (h : Inner l dj i k) (hk : k = 0 ∨ ∃ q x y, k = q + 1 ∧ dj[q + 1]? = some x ∧ dj[q]? = some y ∧ ¬ ltP x y) : Outer l dj (i + 1) := by
  have fin : ∀ (A : List (Int × Int)) (x : Int × Int) (B C : List (Int × Int)), dj = A ++ x :: B ++ C → A.length + B.length = i → dj.Perm l → (A ++ B).Pairwise leP → (∀ b ∈ B, leP x b) → (∀ a ∈ A, leP a x) → Outer l dj (i + 1) := by
    intro A x B C e hi hp hs hb ha
    refine ⟨hp, hp.length_eq, ?_⟩
    have e1 : dj.take (i + 1) = A ++ x :: B := by
      rw [e, List.take_append_of_le_length (by simp; omega), List.take_of_length_le (by simp; omega)]
    rw [e1]
    obtain ⟨p1, p2, p3⟩ := List.pairwise_append.1 hs
    refine List.pairwise_append.2 ⟨p1, List.pairwise_cons.2 ⟨hb, p2⟩, fun a ha' b hb' => ?_⟩
    rcases List.mem_cons.1 hb' with rfl | hb'
    · exact ha a ha'
    · exact p3 a ha' b hb'
  rcases hk with rfl | ⟨q, x, y, rfl, hx, hy, hn⟩
  · obtain ⟨A, x, B, C, e, hl, hi, hp, hs, hb⟩ := h
    obtain rfl : A = [] := List.length_eq_zero_iff.1 hl
    exact fin [] x B C e hi hp hs hb (by simp)
  · obtain ⟨A, y0, x0, B, C, e, hl, hi, hp, hs, hb, hx0, hy0⟩ := inner_get h
    rw [hx0] at hx; rw [hy0] at hy
    cases hx; cases hy
    have hyx := leP_of_not hn
    refine fin (A ++ [y]) x B C (by rw [e]; simp) (by simp; omega) hp hs hb ?_
    intro a ha
    rcases List.mem_append.1 ha with h1 | h1
    · obtain ⟨p1, _, _⟩ := List.pairwise_append.1 hs
      obtain ⟨_, _, p3⟩ := List.pairwise_append.1 p1
      exact leP_trans (p3 a h1 y (by simp)) hyx
    · simp at h1; subst h1; exact hyx

theorem outer_end {l dk : List (Int × Int)} (h : Outer l dk l.length) : SortP l dk := by
  obtain ⟨h1, h2, h3⟩ := h
  rw [List.take_of_length_le (by omega)] at h3
  exact ⟨h1, h3⟩

theorem owns_swap {w : World} {base : Nat} {e : TypeId} {g n cap q : Nat} {dj : List (Int × Int)} {x y : Int × Int} (h : w.ownsRow base e 2 (.slice (some ⟨g, 0, none⟩) n cap) n (cellsP dj)) :
    ((((w.setCell ⟨g, (q + 1) * 2, none⟩ (.int .i64 y.1)).setCell ⟨g, (q + 1) * 2 + 1, none⟩ (.int .i64 y.2)).setCell ⟨g, q * 2, none⟩ (.int .i64 x.1)).setCell ⟨g, q * 2 + 1, none⟩ (.int .i64 x.2)).drew.ownsRow base e 2 (.slice (some ⟨g, 0, none⟩) n cap) n (cellsP ((dj.set (q + 1) y).set q x)) := by
  rw [cellsP_set, cellsP_set]
  exact owns_set (owns_set (owns_set (owns_set h _ _) _ _) _ _) _ _

theorem grown_set {w wr : World} {g j : Nat} (h : w.grownBy wr (some g)) (v : Value) : w.grownBy (wr.setCell ⟨g, j, none⟩ v) (some g) :=
  ⟨h.os, h.tape, h.output, Nat.le_trans h.size (KeepsWalks.setCell wr _ v).size, fun k hk hne => (Below.heap_setCell _ _ _ k (fun e => hne (by rw [e]))).trans (h.block k hk hne)⟩

theorem grown_drew {w wr : World} {row : Option Nat} (h : w.grownBy wr row) : w.grownBy wr.drew row := ⟨h.os, h.tape, h.output, h.size, h.block⟩

set_option maxRecDepth 100000 in
set_option maxHeartbeats 4000000 in
theorem sorted_run (g n cap base : Nat) (l : List (Int × Int)) (w : World) (hn : n = l.length) (hn2 : n ≤ 8388608)
    (hown : w.ownsRow base 36 2 (.slice (some ⟨g, 0, none⟩) n cap) n (cellsP l)) :
    Calls Try.prog 70 #[.slice (some ⟨g, 0, none⟩) n cap] w fun e w' => e = .returned (.tuple #[]) ∧ ∃ l', SortP l l' ∧ w'.ownsRow base 36 2 (.slice (some ⟨g, 0, none⟩) n cap) n (cellsP l') ∧ w.grownBy w' (some g) := by
  have HN := Lib.hid hn
  clear hn
  go_enter Try.func70, Try.ntmps70
  go_wp2
  go_loopw [2, 3, 6] (fun _ _ i wr => ∃ (k : Nat) (dk : List (Int × Int)), k ≤ n ∧ i = .int .i64 k ∧ Hid (Outer l dk k) ∧ Hid (wr.ownsRow base 36 2 (.slice (some ⟨g, 0, none⟩) n cap) n (cellsP dk)) ∧ Hid (w.grownBy wr (some g))) (fun _ _ i _ => n - (intOf i).toNat)
  case atStart => exact ⟨0, l, Nat.zero_le _, rfl, ⟨List.Perm.refl _, rfl, by simp⟩, hown, ⟨rfl, rfl, rfl, Nat.le_refl _, fun _ _ _ => rfl⟩⟩
  case round =>
    obtain ⟨i, dk, hi, rfl, HO, HW, HG⟩ := hrel
    by_cases hlt : i < n
    · have HS := Lib.hid (inner_start HO.out (by rw [← HN.out]; exact hlt))
      go_wp2
      go_loopw [3] (fun k wr => ∃ (j : Nat) (dj : List (Int × Int)), j ≤ i ∧ k = .int .i64 j ∧ Hid (Inner l dj i j) ∧ Hid (wr.ownsRow base 36 2 (.slice (some ⟨g, 0, none⟩) n cap) n (cellsP dj)) ∧ Hid (w.grownBy wr (some g))) (fun k _ => (intOf k).toNat)
      case atStart => exact ⟨i, dk, Nat.le_refl _, rfl, HS, HW, HG⟩
      case round =>
        obtain ⟨j, dj, hj, rfl, HI, HW2, HG2⟩ := hrel
        by_cases hj0 : j = 0
        · subst hj0
          rw [show ((0 : Nat) : Int) = 0 from rfl]
          have HE := Lib.hid (inner_end HI.out (.inl rfl))
          have z1 : decide ((0 : Int) < 0) = false := by decide
          go_wp2_with fail
          go_quiet (fail)
          generalize hwq : wr.drewN nq = wq
          have HWQ : Hid (wq.ownsRow base 36 2 (.slice (some ⟨g, 0, none⟩) n cap) n (cellsP dj)) := by rw [← hwq]; exact HW2
          have HGQ : Hid (w.grownBy wq (some g)) := by rw [← hwq]; exact ⟨HG2.out.os, HG2.out.tape, HG2.out.output, HG2.out.size, HG2.out.block⟩
          clear hwq
          go_wp2
          exact ⟨⟨i + 1, dj, by omega, by go_num, HE, HWQ, HGQ⟩, by simp [intOf]; omega⟩
        · obtain ⟨q, rfl⟩ : ∃ q, j = q + 1 := ⟨j - 1, by omega⟩
          obtain ⟨A, y, x, B, C, _, _, _, hp, _, _, hx, hy⟩ := inner_get HI.out
          have hln : dj.length = n := by rw [hp.length_eq, HN.out]
          have cx := cellsP_get _ _ _ hx
          have cy := cellsP_get _ _ _ hy
          have p1 : ((q + 1 : Nat) : Int) < (n : Int) := by omega
          have p2 : (0 : Int) < ((q + 1 : Nat) : Int) := by omega
          have p3 : ((q + 1 : Nat) : Int) - 1 < (n : Int) := by omega
          have c1 : wr.cell? ⟨g, (q + 1) * 2, none⟩ = some (.int .i64 x.1) := by rw [HW2.out.cellAt _ (by omega)]; exact cx.1
          have c2 : wr.cell? ⟨g, (q + 1) * 2 + 1, none⟩ = some (.int .i64 x.2) := by rw [HW2.out.cellAt _ (by omega)]; exact cx.2
          have c3 : wr.cell? ⟨g, q * 2, none⟩ = some (.int .i64 y.1) := by rw [HW2.out.cellAt _ (by omega)]; exact cy.1
          have c4 : wr.cell? ⟨g, q * 2 + 1, none⟩ = some (.int .i64 y.2) := by rw [HW2.out.cellAt _ (by omega)]; exact cy.2
          have f1 := owns_frozen HW2.out ((q + 1) * 2)
          have f2 := owns_frozen HW2.out ((q + 1) * 2 + 1)
          have f3 := owns_frozen HW2.out (q * 2)
          have f4 := owns_frozen HW2.out (q * 2 + 1)
          have HX := Lib.hid hx
          have HY := Lib.hid hy
          clear cx cy hx hy hp hln
          by_cases t1 : x.1 < y.1
          · have HI2 := Lib.hid (inner_swap HI.out HX.out HY.out (.inl t1))
            go_wp2_with fail
            go_quiet (fail)
            generalize hwq : wr.drewN nq = wq
            have d1 : wq.cell? ⟨g, (q + 1) * 2, none⟩ = some (.int .i64 x.1) := by rw [← hwq, World.cell?_drewN]; exact c1
            have d2 : wq.cell? ⟨g, (q + 1) * 2 + 1, none⟩ = some (.int .i64 x.2) := by rw [← hwq, World.cell?_drewN]; exact c2
            have d3 : wq.cell? ⟨g, q * 2, none⟩ = some (.int .i64 y.1) := by rw [← hwq, World.cell?_drewN]; exact c3
            have d4 : wq.cell? ⟨g, q * 2 + 1, none⟩ = some (.int .i64 y.2) := by rw [← hwq, World.cell?_drewN]; exact c4
            have g1 : wq.frozen? ⟨g, (q + 1) * 2, none⟩ = false := by rw [← hwq, World.frozen?_drewN]; exact f1
            have g2 : wq.frozen? ⟨g, (q + 1) * 2 + 1, none⟩ = false := by rw [← hwq, World.frozen?_drewN]; exact f2
            have g3 : wq.frozen? ⟨g, q * 2, none⟩ = false := by rw [← hwq, World.frozen?_drewN]; exact f3
            have g4 : wq.frozen? ⟨g, q * 2 + 1, none⟩ = false := by rw [← hwq, World.frozen?_drewN]; exact f4
            have HWQ : Hid (wq.ownsRow base 36 2 (.slice (some ⟨g, 0, none⟩) n cap) n (cellsP dj)) := by rw [← hwq]; exact HW2
            have HGQ : Hid (w.grownBy wq (some g)) := by rw [← hwq]; exact ⟨HG2.out.os, HG2.out.tape, HG2.out.output, HG2.out.size, HG2.out.block⟩
            clear c1 c2 c3 c4 f1 f2 f3 f4 hwq
            go_wp2
            go_region
            go_wp2
            exact ⟨⟨q, _, by omega, rfl, HI2, owns_swap HWQ.out, grown_drew (grown_set (grown_set (grown_set (grown_set HGQ.out _) _) _) _)⟩, by simp [intOf]⟩
          · have t1' : decide (x.1 < y.1) = false := decide_eq_false t1
            by_cases t2 : x.1 = y.1
            · have t2' : (x.1 == y.1) = true := by simp [t2]
              by_cases t3 : x.2 < y.2
              · have HI2 := Lib.hid (inner_swap HI.out HX.out HY.out (.inr ⟨t2, t3⟩))
                clear t2
                go_wp2_with fail
                go_quiet (fail)
                generalize hwq : wr.drewN nq = wq
                have d1 : wq.cell? ⟨g, (q + 1) * 2, none⟩ = some (.int .i64 x.1) := by rw [← hwq, World.cell?_drewN]; exact c1
                have d2 : wq.cell? ⟨g, (q + 1) * 2 + 1, none⟩ = some (.int .i64 x.2) := by rw [← hwq, World.cell?_drewN]; exact c2
                have d3 : wq.cell? ⟨g, q * 2, none⟩ = some (.int .i64 y.1) := by rw [← hwq, World.cell?_drewN]; exact c3
                have d4 : wq.cell? ⟨g, q * 2 + 1, none⟩ = some (.int .i64 y.2) := by rw [← hwq, World.cell?_drewN]; exact c4
                have g1 : wq.frozen? ⟨g, (q + 1) * 2, none⟩ = false := by rw [← hwq, World.frozen?_drewN]; exact f1
                have g2 : wq.frozen? ⟨g, (q + 1) * 2 + 1, none⟩ = false := by rw [← hwq, World.frozen?_drewN]; exact f2
                have g3 : wq.frozen? ⟨g, q * 2, none⟩ = false := by rw [← hwq, World.frozen?_drewN]; exact f3
                have g4 : wq.frozen? ⟨g, q * 2 + 1, none⟩ = false := by rw [← hwq, World.frozen?_drewN]; exact f4
                have HWQ : Hid (wq.ownsRow base 36 2 (.slice (some ⟨g, 0, none⟩) n cap) n (cellsP dj)) := by rw [← hwq]; exact HW2
                have HGQ : Hid (w.grownBy wq (some g)) := by rw [← hwq]; exact ⟨HG2.out.os, HG2.out.tape, HG2.out.output, HG2.out.size, HG2.out.block⟩
                clear c1 c2 c3 c4 f1 f2 f3 f4 hwq
                go_wp2
                go_region
                go_wp2
                exact ⟨⟨q, _, by omega, rfl, HI2, owns_swap HWQ.out, grown_drew (grown_set (grown_set (grown_set (grown_set HGQ.out _) _) _) _)⟩, by simp [intOf]⟩
              · have t3' : decide (x.2 < y.2) = false := decide_eq_false t3
                have HE := Lib.hid (inner_end HI.out (.inr ⟨q, x, y, rfl, HX.out, HY.out, by unfold ltP; omega⟩))
                clear t2
                go_wp2_with fail
                go_quiet (fail)
                generalize hwq : wr.drewN nq = wq
                have HWQ : Hid (wq.ownsRow base 36 2 (.slice (some ⟨g, 0, none⟩) n cap) n (cellsP dj)) := by rw [← hwq]; exact HW2
                have HGQ : Hid (w.grownBy wq (some g)) := by rw [← hwq]; exact ⟨HG2.out.os, HG2.out.tape, HG2.out.output, HG2.out.size, HG2.out.block⟩
                clear hwq
                go_wp2
                exact ⟨⟨i + 1, dj, by omega, by go_num, HE, HWQ, HGQ⟩, by simp [intOf]; omega⟩
            · have t2' : (x.1 == y.1) = false := by simp [t2]
              have HE := Lib.hid (inner_end HI.out (.inr ⟨q, x, y, rfl, HX.out, HY.out, by unfold ltP; omega⟩))
              clear t2
              go_wp2_with fail
              go_quiet (fail)
              generalize hwq : wr.drewN nq = wq
              have HWQ : Hid (wq.ownsRow base 36 2 (.slice (some ⟨g, 0, none⟩) n cap) n (cellsP dj)) := by rw [← hwq]; exact HW2
              have HGQ : Hid (w.grownBy wq (some g)) := by rw [← hwq]; exact ⟨HG2.out.os, HG2.out.tape, HG2.out.output, HG2.out.size, HG2.out.block⟩
              clear hwq
              go_wp2
              exact ⟨⟨i + 1, dj, by omega, by go_num, HE, HWQ, HGQ⟩, by simp [intOf]; omega⟩
    · obtain rfl : i = n := by omega
      go_wp2
      go_end0
      have ho := HO.out
      rw [HN.out] at ho
      exact ⟨rfl, dk, outer_end ho, HW.out, HG.out⟩

set_option maxHeartbeats 400000 in
/-- sorted, for every list that the caller owns -/
theorem sorted_any (base : Nat) (v : Value) (l : List (Int × Int)) (w : World) (hown : w.ownsRow base 36 2 v l.length (cellsP l)) (hl : l.length ≤ 8388608) :
    Calls Try.prog 70 #[v] w fun e w' => e = .returned (.tuple #[]) ∧ ∃ l', SortP l l' ∧ w'.ownsRow base 36 2 v l.length (cellsP l') ∧ w.grownBy w' v.ownBlock := by
  have hown' := hown
  rcases hown.2 with ⟨rfl, h0⟩ | ⟨g, cap, cur, rfl, hb, hg, hn, _⟩
  · have hl0 : l = [] := List.length_eq_zero_iff.1 h0
    subst hl0
    go_enter Try.func70, Try.ntmps70
    go_wp2
    refine wp_loop_rounds 1 ?_
    rw [rounds_succ]
    go_wp2
    go_end0
    exact ⟨rfl, [], ⟨List.Perm.refl _, List.Pairwise.nil⟩, hown', ⟨rfl, rfl, rfl, Nat.le_refl _, fun _ _ _ => rfl⟩⟩
  · exact (sorted_run g l.length cap base l w rfl hl hown').mono fun e w' ⟨h1, l', h2, h3, h4⟩ => ⟨h1, l', h2, h3, h4⟩

end Go.Proofs.Ytjmggphnngffjaa
