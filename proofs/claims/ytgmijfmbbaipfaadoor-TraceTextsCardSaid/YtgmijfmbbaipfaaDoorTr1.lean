/- A model's place in memory; idle, in. -/
import Derived.Test.YtgmijfmbbaipfaaDoorTrP
import Derived.WalkKit
namespace Go.Proofs.YtgmijfmbbaipfaaDoor
open Go.RowKit

/-- how a model lies -/
structure MdR (w : World) (m0 m1 m2 m3 m4 m5 m6 m7 m8 m9 : Value) (M : Mdl) : Prop where
  attrs : RowE strE 1 w m0 M.attrs
  inits : RowE intE 1 w m1 M.inits
  users : RowE strE 1 w m2 M.users
  roles : RowE roleE 2 w m3 M.roles
  stages : RowE stageE 2 w m4 M.stages
  events : RowE eventE 5 w m5 M.events
  guards : RowE guardE 3 w m6 M.guards
  miles : RowE mileE 5 w m7 M.miles
  sods : RowE sodE 2 w m8 M.sods
  order : RowE sentryE 2 w m9 M.order
theorem MdR.below {w w' : World} {m0 m1 m2 m3 m4 m5 m6 m7 m8 m9 : Value} {M : Mdl} (h : MdR w m0 m1 m2 m3 m4 m5 m6 m7 m8 m9 M) (hb : Below w.heap.size w w') : MdR w' m0 m1 m2 m3 m4 m5 m6 m7 m8 m9 M :=
  ⟨h.attrs.below strE_keep hb, h.inits.below intE_keep hb, h.users.below strE_keep hb, h.roles.below roleE_keep hb, h.stages.below stageE_keep hb, h.events.below eventE_keep hb, h.guards.below guardE_keep hb, h.miles.below mileE_keep hb, h.sods.below sodE_keep hb, h.order.below sentryE_keep hb⟩
theorem MdR.of_model {w : World} {M : Mdl} {cs : List Value} (h : modelE w M cs) : ∃ m0 m1 m2 m3 m4 m5 m6 m7 m8 m9, cs = [m0, m1, m2, m3, m4, m5, m6, m7, m8, m9] ∧ MdR w m0 m1 m2 m3 m4 m5 m6 m7 m8 m9 M := by
  obtain ⟨m0, m1, m2, m3, m4, m5, m6, m7, m8, m9, hc, h0, h1, h2, h3, h4, h5, h6, h7, h8, h9⟩ := h
  exact ⟨m0, m1, m2, m3, m4, m5, m6, m7, m8, m9, hc, ⟨h0, h1, h2, h3, h4, h5, h6, h7, h8, h9⟩⟩

theorem list_getD {α : Type} {l : List α} {i : Nat} {a : α} (d : α) (h : l[i]? = some a) : l.getD i d = a := by rw [List.getD_eq_getElem?_getD, h]; rfl

set_option maxHeartbeats 1000000 in
theorem tin_any (n : Int) (m : Nat) (w : World) : Calls Tryd.prog 13 #[.int .i64 n, .int .i64 m] w fun e w' => e = .returned (.bool (inZ n m)) ∧ w = w' := by
  by_cases h0 : 0 ≤ n
  · have HE : Hid (inZ n m = decide (n < (m : Int))) := by unfold Hid inZ; rw [decide_eq_true h0, Bool.true_and]
    rw [HE.out]
    go_enter Tryd.func13, Tryd.ntmps13
    go_wp2
    go_ret
    exact ⟨rfl, rfl⟩
  · have HE : Hid (inZ n m = false) := by unfold Hid inZ; rw [decide_eq_false h0]; rfl
    rw [HE.out]
    go_enter Tryd.func13, Tryd.ntmps13
    go_wp2
    go_ret
    exact ⟨rfl, rfl⟩
set_option maxHeartbeats 1000000 in
theorem rtin_any (n : Int) (m : Nat) (w : World) : Calls Tryd.prog 18 #[.int .i64 n, .int .i64 m] w fun e w' => e = .returned (.bool (inZ n m)) ∧ w = w' := by
  by_cases h0 : 0 ≤ n
  · have HE : Hid (inZ n m = decide (n < (m : Int))) := by unfold Hid inZ; rw [decide_eq_true h0, Bool.true_and]
    rw [HE.out]
    go_enter Tryd.func18, Tryd.ntmps18
    go_wp2
    go_ret
    exact ⟨rfl, rfl⟩
  · have HE : Hid (inZ n m = false) := by unfold Hid inZ; rw [decide_eq_false h0]; rfl
    rw [HE.out]
    go_enter Tryd.func18, Tryd.ntmps18
    go_wp2
    go_ret
    exact ⟨rfl, rfl⟩
set_option maxHeartbeats 1000000 in
theorem tidle_any (v : Mv) (ad : Option Addr) (c : Nat) (w : World) : Calls Tryd.prog 12 #[.agg #[.int .i64 v.event, .int .i64 v.user, .slice ad v.vals.length c]] w fun e w' => e = .returned (.bool (idleV v)) ∧ Below w.heap.size w w' := by
  obtain ⟨a, b, l⟩ := v
  obtain ⟨n, hn⟩ : ∃ n, l.length = n := ⟨_, rfl⟩
  have HB := Lib.hid ((Below.refl w.heap.size w).alloc (Nat.le_refl _) (.cells #[.int .i64 a, .int .i64 b, .slice ad n c] 46))
  unfold idleV
  dsimp only
  rw [hn]
  clear hn
  by_cases h0 : a = -1
  · by_cases h1 : b = -1
    · by_cases h2 : n = 0
      · subst h0; subst h1; subst h2
        go_enter Tryd.func12, Tryd.ntmps12
        go_wp2
        go_ret
        exact ⟨rfl, HB.out⟩
      · have HF : Hid ((decide (a = -1) && decide (b = -1) && decide (n = 0)) = false) := by unfold Hid; rw [decide_eq_false h2, Bool.and_false]
        rw [HF.out]
        have h3 : ((n : Int) == 0) = false := by simp [h2]
        clear h2
        subst h0; subst h1
        go_enter Tryd.func12, Tryd.ntmps12
        go_wp2
        go_ret
        exact ⟨rfl, HB.out⟩
    · have HF : Hid ((decide (a = -1) && decide (b = -1) && decide (n = 0)) = false) := by unfold Hid; rw [decide_eq_false h1, Bool.and_false, Bool.false_and]
      rw [HF.out]
      subst h0
      go_enter Tryd.func12, Tryd.ntmps12
      go_wp2
      go_ret
      exact ⟨rfl, HB.out⟩
  · have HF : Hid ((decide (a = -1) && decide (b = -1) && decide (n = 0)) = false) := by unfold Hid; rw [decide_eq_false h0, Bool.false_and, Bool.false_and]
    rw [HF.out]
    go_enter Tryd.func12, Tryd.ntmps12
    go_wp2
    go_ret
    exact ⟨rfl, HB.out⟩
set_option maxHeartbeats 1000000 in
theorem ridle_any (v : Mv) (ad : Option Addr) (c : Nat) (w : World) : Calls Tryd.prog 17 #[.agg #[.int .i64 v.event, .int .i64 v.user, .slice ad v.vals.length c]] w fun e w' => e = .returned (.bool (idleV v)) ∧ Below w.heap.size w w' := by
  obtain ⟨a, b, l⟩ := v
  obtain ⟨n, hn⟩ : ∃ n, l.length = n := ⟨_, rfl⟩
  have HB := Lib.hid ((Below.refl w.heap.size w).alloc (Nat.le_refl _) (.cells #[.int .i64 a, .int .i64 b, .slice ad n c] 46))
  unfold idleV
  dsimp only
  rw [hn]
  clear hn
  by_cases h0 : a = -1
  · by_cases h1 : b = -1
    · by_cases h2 : n = 0
      · subst h0; subst h1; subst h2
        go_enter Tryd.func17, Tryd.ntmps17
        go_wp2
        go_ret
        exact ⟨rfl, HB.out⟩
      · have HF : Hid ((decide (a = -1) && decide (b = -1) && decide (n = 0)) = false) := by unfold Hid; rw [decide_eq_false h2, Bool.and_false]
        rw [HF.out]
        have h3 : ((n : Int) == 0) = false := by simp [h2]
        clear h2
        subst h0; subst h1
        go_enter Tryd.func17, Tryd.ntmps17
        go_wp2
        go_ret
        exact ⟨rfl, HB.out⟩
    · have HF : Hid ((decide (a = -1) && decide (b = -1) && decide (n = 0)) = false) := by unfold Hid; rw [decide_eq_false h1, Bool.and_false, Bool.false_and]
      rw [HF.out]
      subst h0
      go_enter Tryd.func17, Tryd.ntmps17
      go_wp2
      go_ret
      exact ⟨rfl, HB.out⟩
  · have HF : Hid ((decide (a = -1) && decide (b = -1) && decide (n = 0)) = false) := by unfold Hid; rw [decide_eq_false h0, Bool.false_and, Bool.false_and]
    rw [HF.out]
    go_enter Tryd.func17, Tryd.ntmps17
    go_wp2
    go_ret
    exact ⟨rfl, HB.out⟩

end Go.Proofs.YtgmijfmbbaipfaaDoor
