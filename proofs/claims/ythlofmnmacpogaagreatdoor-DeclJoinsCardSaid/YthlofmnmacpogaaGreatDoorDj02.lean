/- Plain: a statement reads alike in two lists of tokens that agree, but for places (begun). Plain: bytes of texts; steps of the token reader. -/
import Derived.Test.YthlofmnmacpogaaGreatDoorDj01
import Derived.Test.YthlofmnmacpogaaGreatDoorDf10
import Derived.Test.YthlofmnmacpogaaGreatDoorDf15

namespace Go.Proofs.YthlofmnmacpogaaGreatDoor
open Go.RowKit

def bareS (x : St) : St := { x with line := 0, col := 0, ifs := x.ifs.map bare }
theorem sim_read {T T' : List Tk} {n d : Int} (A : Agree T T' n d) (prop : Bool) : Sim n d (readP T prop) (readP T' prop) := by
  intro i o a hi ha h
  unfold readP at h
  cases hb : (bothP T prop 25).2 i with
  | bad e l c => rw [hb] at h; cases h
  | ok o1 a1 =>
    rw [hb] at h
    dsimp only at h
    split at h
    · cases h
    · rename_i w
      injection h with e1 e2
      subst e1 e2
      obtain ⟨p1, s1, m1⟩ := (sim_both A prop 25).2 i _ _ hi ha hb
      have hl : p1.length = o1.length := by have := congrArg List.length m1; simpa using this
      refine ⟨p1, ?_, m1⟩
      unfold readP
      rw [s1]
      dsimp only
      rw [if_neg (by omega)]

/-- two readers stand alike -/
structure RJ (d : Int) (r r' : RS) : Prop where
  i : r'.i = r.i + d
  x : bareS r'.x = bareS r.x
  er : r.er = 0
  er' : r'.er = 0
def SimD (n d : Int) (f f' : RS → RS) : Prop := ∀ r r', RJ d r r' → 0 ≤ r.i → (f r).er = 0 → (f r).i < n → RJ d (f r) (f' r')
theorem take_sim {T T' : List Tk} {n d : Int} (A : Agree T T' n d) (k : Int) {r r' : RS} (h : RJ d r r') (h0 : 0 ≤ r.i) (he : (takeD T k r).er = 0) (hn : (takeD T k r).i < n) :
    kindB T k r = true ∧ kindB T' k r' = true ∧ takeD T k r = { r with i := r.i + 1 } ∧ takeD T' k r' = { r' with i := r'.i + 1 } ∧ (tkAt T' r'.i).text = (tkAt T r.i).text ∧ (tkAt T' r'.i).num = (tkAt T r.i).num := by
  have hlt : r.i < n := by have := take_up T k r; omega
  obtain ⟨e0, e1, e2⟩ := A.tk r.i h0 hlt
  have hk : (tkAt T r.i).kind = k := by
    refine Classical.byContradiction fun hk => ?_
    unfold takeD at he
    rw [if_neg (by unfold kindB; rw [decide_eq_false hk, Bool.false_and]; decide), if_neg hk] at he
    exact failD_er T (by decide) r he
  have b1 : kindB T k r = true := by unfold kindB; rw [decide_eq_true hk, decide_eq_true h.er]; rfl
  have b2 : kindB T' k r' = true := by unfold kindB; rw [h.i, ← e0, decide_eq_true hk, decide_eq_true h.er']; rfl
  exact ⟨b1, b2, by unfold takeD; rw [if_pos b1], by unfold takeD; rw [if_pos b2], by rw [h.i]; exact e1.symm, by rw [h.i]; exact e2.symm⟩

theorem need_sim {T T' : List Tk} {n d : Int} (A : Agree T T' n d) (k : Int) (s : ByteArray) {r r' : RS} (h : RJ d r r') (h0 : 0 ≤ r.i) (he : (needD T k s r).er = 0) (hn : (needD T k s r).i < n) : RJ d (needD T k s r) (needD T' k s r') := by
  have hlt : r.i < n := by have := need_up T k s r; omega
  have hm : mayB T k s r = true := by
    refine Classical.byContradiction fun hm => ?_
    unfold needD at he
    rw [if_neg hm] at he
    exact failD_er T (by decide) r he
  have hm' : mayB T' k s r' = true := by
    have h1 := mayB_is hm
    unfold mayB
    rw [h.i, A.isTk h0 hlt, h1.2, decide_eq_true h.er']; rfl
  unfold needD
  rw [if_pos hm, if_pos hm']
  exact ⟨by show r'.i + 1 = r.i + 1 + d; have := h.i; omega, h.x, h.er, h.er'⟩
theorem mayB_sim {T T' : List Tk} {n d : Int} (A : Agree T T' n d) (k : Int) (s : ByteArray) {r r' : RS} (h : RJ d r r') (h0 : 0 ≤ r.i) (hlt : r.i < n) : mayB T' k s r' = mayB T k s r := by
  unfold mayB
  rw [h.i, A.isTk h0 hlt, decide_eq_true h.er', decide_eq_true h.er]
theorem may_sim {T T' : List Tk} {n d : Int} (A : Agree T T' n d) (k : Int) (s : ByteArray) {r r' : RS} (h : RJ d r r') (h0 : 0 ≤ r.i) (hlt : r.i < n) : RJ d (mayD T k s r) (mayD T' k s r') := by
  have e := mayB_sim A k s h h0 hlt
  unfold mayD
  rw [e]
  split
  · exact ⟨by show r'.i + 1 = r.i + 1 + d; have := h.i; omega, h.x, h.er, h.er'⟩
  · exact h
theorem name_sim {T T' : List Tk} {n d : Int} (A : Agree T T' n d) {r r' : RS} (h : RJ d r r') (h0 : 0 ≤ r.i) (he : (nameD T r).er = 0) (hn : (nameD T r).i < n) : RJ d (nameD T r) (nameD T' r') ∧ nameV T' r' = nameV T r := by
  obtain ⟨b1, b2, e1, e2, et, _⟩ := take_sim A 1 h h0 he hn
  refine ⟨?_, by unfold nameV; rw [if_pos b1, if_pos b2, et]⟩
  unfold nameD
  rw [e1, e2]
  exact ⟨by show r'.i + 1 = r.i + 1 + d; have := h.i; omega, h.x, h.er, h.er'⟩
theorem num_sim {T T' : List Tk} {n d : Int} (A : Agree T T' n d) {r r' : RS} (h : RJ d r r') (h0 : 0 ≤ r.i) (he : (numD T r).er = 0) (hn : (numD T r).i < n) : RJ d (numD T r) (numD T' r') ∧ numW T' r' = numW T r := by
  obtain ⟨b1, b2, e1, e2, _, et⟩ := take_sim A 3 h h0 he hn
  refine ⟨?_, by unfold numW; rw [if_pos b1, if_pos b2, et]⟩
  unfold numD
  rw [e1, e2]
  exact ⟨by show r'.i + 1 = r.i + 1 + d; have := h.i; omega, h.x, h.er, h.er'⟩

/-! ### what went wrong stays so -/
theorem need_er {T : List Tk} {k : Int} {s : ByteArray} {r : RS} (h : (needD T k s r).er = 0) : r.er = 0 := by
  unfold needD at h
  split at h
  · exact h
  · exact absurd h (failD_er T (by decide) r)
theorem may_er {T : List Tk} {k : Int} {s : ByteArray} {r : RS} (h : (mayD T k s r).er = 0) : r.er = 0 := by
  unfold mayD at h
  split at h <;> exact h
theorem take_er {T : List Tk} {k : Int} {r : RS} (h : (takeD T k r).er = 0) : r.er = 0 := by
  unfold takeD at h
  split at h
  · exact h
  · split at h
    · exact h
    · exact absurd h (failD_er T (by decide) r)
theorem name_er {T : List Tk} {r : RS} (h : (nameD T r).er = 0) : r.er = 0 := take_er h
theorem num_er {T : List Tk} {r : RS} (h : (numD T r).er = 0) : r.er = 0 := take_er h

/-! ### stores -/
theorem RJ.putName {d : Int} {r r' : RS} (h : RJ d r r') (v : ByteArray) : RJ d (setName v r) (setName v r') := by
  refine ⟨h.i, ?_, h.er, h.er'⟩
  have hx := h.x
  simp only [bareS, St.mk.injEq, setName] at hx ⊢
  simp [hx]
theorem RJ.putInit {d : Int} {r r' : RS} (h : RJ d r r') (v : Int) : RJ d (setInit v r) (setInit v r') := by
  refine ⟨h.i, ?_, h.er, h.er'⟩
  have hx := h.x
  simp only [bareS, St.mk.injEq, setInit] at hx ⊢
  simp [hx]
theorem RJ.putNames {d : Int} {r r' : RS} (h : RJ d r r') (v : List ByteArray) : RJ d (setNames v r) (setNames v r') := by
  refine ⟨h.i, ?_, h.er, h.er'⟩
  have hx := h.x
  simp only [bareS, St.mk.injEq, setNames] at hx ⊢
  simp [hx]
theorem RJ.putRole {d : Int} {r r' : RS} (h : RJ d r r') (v : ByteArray) : RJ d (setRole v r) (setRole v r') := by
  refine ⟨h.i, ?_, h.er, h.er'⟩
  have hx := h.x
  simp only [bareS, St.mk.injEq, setRole] at hx ⊢
  simp [hx]
theorem RJ.putStage {d : Int} {r r' : RS} (h : RJ d r r') (v : ByteArray) : RJ d (setStage v r) (setStage v r') := by
  refine ⟨h.i, ?_, h.er, h.er'⟩
  have hx := h.x
  simp only [bareS, St.mk.injEq, setStage] at hx ⊢
  simp [hx]
theorem RJ.putEvent {d : Int} {r r' : RS} (h : RJ d r r') (v : ByteArray) : RJ d (setEvent v r) (setEvent v r') := by
  refine ⟨h.i, ?_, h.er, h.er'⟩
  have hx := h.x
  simp only [bareS, St.mk.injEq, setEvent] at hx ⊢
  simp [hx]
theorem RJ.putTimes {d : Int} {r r' : RS} (h : RJ d r r') (v : Int) : RJ d (setTimes v r) (setTimes v r') := by
  refine ⟨h.i, ?_, h.er, h.er'⟩
  have hx := h.x
  simp only [bareS, St.mk.injEq, setTimes] at hx ⊢
  simp [hx]
theorem RJ.putFinal {d : Int} {r r' : RS} (h : RJ d r r') (v : Bool) : RJ d (setFinal v r) (setFinal v r') := by
  refine ⟨h.i, ?_, h.er, h.er'⟩
  have hx := h.x
  simp only [bareS, St.mk.injEq, setFinal] at hx ⊢
  simp [hx]
theorem sim_attr {T T' : List Tk} {n d : Int} (A : Agree T T' n d) : SimD n d (attrD T) (attrD T') := by
  intro r r' h h0 he hn
  obtain ⟨r1, e1⟩ : ∃ q, setName (nameV T r) (nameD T r) = q := ⟨_, rfl⟩
  obtain ⟨r2, e2⟩ : ∃ q, needD T 4 sEq r1 = q := ⟨_, rfl⟩
  have e3 : attrD T r = setInit (numW T r2) (numD T r2) := by simp only [attrD, e1, e2]
  rw [e3] at he hn ⊢
  have he2 : (numD T r2).er = 0 := he
  have hn2 : (numD T r2).i < n := hn
  have u2 : r2.i ≤ (numD T r2).i := take_up T 3 r2
  have u1 : r1.i ≤ r2.i := by rw [← e2]; exact need_up T 4 sEq r1
  have u0 : r.i ≤ r1.i := by rw [← e1]; exact take_up T 1 r
  have he1 : r2.er = 0 := num_er he2
  have he0 : r1.er = 0 := need_er (by rw [e2]; exact he1)
  obtain ⟨s1, v1⟩ := name_sim A h h0 (by have := he0; rw [← e1] at this; exact this) (by have := u0; have : (nameD T r).i = r1.i := by rw [← e1]; rfl
                                                                                         omega)
  have t1 := s1.putName (nameV T r)
  rw [e1] at t1
  have t2 := need_sim A 4 sEq t1 (by omega) (by rw [e2]; exact he1) (by rw [e2]; omega)
  rw [e2] at t2
  obtain ⟨t3, v3⟩ := num_sim A t2 (by omega) he2 hn2
  have t4 := t3.putInit (numW T r2)
  have e4 : attrD T' r' = setInit (numW T r2) (numD T' (needD T' 4 sEq (setName (nameV T r) (nameD T' r')))) := by
    rw [← v1, ← v3, ← v1]; rfl
  rw [e4]
  exact t4
theorem sim_user {T T' : List Tk} {n d : Int} (A : Agree T T' n d) : SimD n d (userD T) (userD T') := by
  intro r r' h h0 he hn
  obtain ⟨s1, v1⟩ := name_sim A h h0 he hn
  unfold userD
  rw [v1]
  exact s1.putName _

/-- one behind the other -/
theorem SimD.comp {n d : Int} {f f' g g' : RS → RS} (Sf : SimD n d f f') (Sg : SimD n d g g') (uf : ∀ r, r.i ≤ (f r).i) (ug : ∀ r, r.i ≤ (g r).i) (eg : ∀ r, (g r).er = 0 → r.er = 0) : SimD n d (fun r => g (f r)) (fun r => g' (f' r)) := by
  intro r r' h h0 he hn
  have u1 := uf r
  have u2 := ug (f r)
  exact Sg _ _ (Sf r r' h h0 (eg _ he) (by have hn2 : (g (f r)).i < n := hn; omega)) (by omega) he hn
theorem sim_need {T T' : List Tk} {n d : Int} (A : Agree T T' n d) (k : Int) (s : ByteArray) : SimD n d (needD T k s) (needD T' k s) := fun _ _ h h0 he hn => need_sim A k s h h0 he hn
theorem sim_nameD {T T' : List Tk} {n d : Int} (A : Agree T T' n d) : SimD n d (nameD T) (nameD T') := fun _ _ h h0 he hn => (name_sim A h h0 he hn).1
theorem sim_toName {T T' : List Tk} {n d : Int} (A : Agree T T' n d) : SimD n d (fun r => setName (nameV T r) (nameD T r)) (fun r => setName (nameV T' r) (nameD T' r)) := by
  intro r r' h h0 he hn
  obtain ⟨s1, v1⟩ := name_sim A h h0 he hn
  show RJ d (setName (nameV T r) (nameD T r)) (setName (nameV T' r') (nameD T' r'))
  rw [v1]
  exact s1.putName _
theorem sim_toRole {T T' : List Tk} {n d : Int} (A : Agree T T' n d) : SimD n d (fun r => setRole (nameV T r) (nameD T r)) (fun r => setRole (nameV T' r) (nameD T' r)) := by
  intro r r' h h0 he hn
  obtain ⟨s1, v1⟩ := name_sim A h h0 he hn
  show RJ d (setRole (nameV T r) (nameD T r)) (setRole (nameV T' r') (nameD T' r'))
  rw [v1]
  exact s1.putRole _
theorem sim_toStage {T T' : List Tk} {n d : Int} (A : Agree T T' n d) : SimD n d (fun r => setStage (nameV T r) (nameD T r)) (fun r => setStage (nameV T' r) (nameD T' r)) := by
  intro r r' h h0 he hn
  obtain ⟨s1, v1⟩ := name_sim A h h0 he hn
  show RJ d (setStage (nameV T r) (nameD T r)) (setStage (nameV T' r') (nameD T' r'))
  rw [v1]
  exact s1.putStage _
theorem sim_toEvent {T T' : List Tk} {n d : Int} (A : Agree T T' n d) : SimD n d (fun r => setEvent (nameV T r) (nameD T r)) (fun r => setEvent (nameV T' r) (nameD T' r)) := by
  intro r r' h h0 he hn
  obtain ⟨s1, v1⟩ := name_sim A h h0 he hn
  show RJ d (setEvent (nameV T r) (nameD T r)) (setEvent (nameV T' r') (nameD T' r'))
  rw [v1]
  exact s1.putEvent _
theorem RJ.names {d : Int} {r r' : RS} (h : RJ d r r') : r'.x.names = r.x.names := by
  have hx := h.x
  simp only [bareS, St.mk.injEq] at hx
  exact hx.2.2.2.2.2.1
theorem sim_more {T T' : List Tk} {n d : Int} (A : Agree T T' n d) : SimD n d (moreD T) (moreD T') := by
  intro r r' h h0 he hn
  obtain ⟨s1, v1⟩ := name_sim A h h0 he hn
  unfold moreD
  rw [v1, h.names]
  exact s1.putNames _
theorem more_er {T : List Tk} {r : RS} (h : (moreD T r).er = 0) : r.er = 0 := name_er h
theorem roleL_er {T : List Tk} : ∀ (k : Nat) {r : RS}, (roleL T k r).er = 0 → r.er = 0
  | 0, _, h => h
  | k + 1, r, h => by
    rw [roleL] at h
    split at h
    · exact more_er (roleL_er k h)
    · exact h
theorem setsL_er {T : List Tk} : ∀ (k : Nat) {r : RS}, (setsL T k r).er = 0 → r.er = 0
  | 0, _, h => h
  | k + 1, r, h => by
    rw [setsL] at h
    split at h
    · exact may_er (more_er (setsL_er k h))
    · exact h
theorem kindB_sim {T T' : List Tk} {n d : Int} (A : Agree T T' n d) (k : Int) {r r' : RS} (h : RJ d r r') (h0 : 0 ≤ r.i) (hlt : r.i < n) : kindB T' k r' = kindB T k r := by
  unfold kindB
  rw [h.i, ← (A.tk r.i h0 hlt).1, decide_eq_true h.er', decide_eq_true h.er]
theorem roleL_sim {T T' : List Tk} {n d : Int} (A : Agree T T' n d) : ∀ (k k' : Nat) (r r' : RS), (T.length : Int) < r.i + k → (T'.length : Int) < r.i + d + k' → RJ d r r' → 0 ≤ r.i → (roleL T k r).er = 0 → (roleL T k r).i < n → RJ d (roleL T k r) (roleL T' k' r')
  | 0, k', r, r', hk, hk', h, h0, he, hn => by
    have hl := A.len
    have hn2 : r.i < n := hn
    omega
  | k + 1, k', r, r', hk, hk', h, h0, he, hn => by
    have hl := A.len
    have hl' := A.len'
    have hlt : r.i < n := by have := up_roleL T (k + 1) r; omega
    obtain ⟨q, rfl⟩ : ∃ q, k' = q + 1 := ⟨k' - 1, by omega⟩
    rw [roleL] at he hn ⊢
    rw [roleL, kindB_sim A 1 h h0 hlt]
    split at he
    · rename_i w
      rw [if_pos w] at hn ⊢
      rw [if_pos w]
      have u1 := up_roleL T k (moreD T r)
      have m1 := sim_more A r r' h h0 (roleL_er k he) (by omega)
      have i1 : (moreD T r).i = r.i + 1 := take_next w
      exact roleL_sim A k q (moreD T r) (moreD T' r') (by omega) (by omega) m1 (by omega) he hn
    · rename_i w
      rw [if_neg w, if_neg w]
      exact h

theorem setsL_sim {T T' : List Tk} {n d : Int} (A : Agree T T' n d) : ∀ (k k' : Nat) (r r' : RS), (T.length : Int) < r.i + k → (T'.length : Int) < r.i + d + k' → RJ d r r' → 0 ≤ r.i → (setsL T k r).er = 0 → (setsL T k r).i < n → RJ d (setsL T k r) (setsL T' k' r')
  | 0, k', r, r', hk, hk', h, h0, he, hn => by
    have hl := A.len
    have hn2 : r.i < n := hn
    omega
  | k + 1, k', r, r', hk, hk', h, h0, he, hn => by
    have hl := A.len
    have hl' := A.len'
    have hlt : r.i < n := by have := up_setsL T (k + 1) r; omega
    obtain ⟨q, rfl⟩ : ∃ q, k' = q + 1 := ⟨k' - 1, by omega⟩
    rw [setsL] at he hn ⊢
    rw [setsL, mayB_sim A 4 sComma h h0 hlt]
    split at he
    · rename_i w
      rw [if_pos w] at hn ⊢
      rw [if_pos w]
      have u1 := up_setsL T k (moreD T (mayD T 4 sComma r))
      have u2 := up_more T (mayD T 4 sComma r)
      have i1 : (mayD T 4 sComma r).i = r.i + 1 := may_next w
      have m0 := may_sim A 4 sComma h h0 hlt
      have m1 := sim_more A _ _ m0 (by omega) (setsL_er k he) (by omega)
      exact setsL_sim A k q _ _ (by omega) (by omega) m1 (by omega) he hn
    · rename_i w
      rw [if_neg w, if_neg w]
      exact h
theorem sim_role {T T' : List Tk} {n d : Int} (A : Agree T T' n d) : SimD n d (roleD T) (roleD T') := by
  have S1 := (sim_toName A).comp (sim_need A 4 sEq) (fun r => take_up T 1 r) (fun r => need_up T 4 sEq r) (fun _ h => need_er h)
  have S2 := S1.comp (sim_more A) (fun r => Int.le_trans (take_up T 1 r) (need_up T 4 sEq (setName (nameV T r) (nameD T r)))) (fun r => up_more T r) (fun _ h => more_er h)
  intro r r' h h0 he hn
  have hl := A.lo
  have u1 : r.i ≤ (moreD T (needD T 4 sEq (setName (nameV T r) (nameD T r)))).i := Int.le_trans (Int.le_trans (take_up T 1 r) (need_up T 4 sEq (setName (nameV T r) (nameD T r)))) (up_more T _)
  have he2 : (roleL T (T.length + 1) (moreD T (needD T 4 sEq (setName (nameV T r) (nameD T r))))).er = 0 := he
  have hn2 : (roleL T (T.length + 1) (moreD T (needD T 4 sEq (setName (nameV T r) (nameD T r))))).i < n := hn
  have u2 := up_roleL T (T.length + 1) (moreD T (needD T 4 sEq (setName (nameV T r) (nameD T r))))
  have m := S2 r r' h h0 (roleL_er _ he2) (by show (moreD T (needD T 4 sEq (setName (nameV T r) (nameD T r)))).i < n; omega)
  exact roleL_sim A _ _ _ _ (by omega) (by omega) m (by omega) he2 hn2

theorem sim_may {T T' : List Tk} {n d : Int} (A : Agree T T' n d) (k : Int) (s : ByteArray) : SimD n d (mayD T k s) (mayD T' k s) := fun r _ h h0 _ hn => may_sim A k s h h0 (by have := may_up T k s r; omega)
/-- a word that may stand there, and what is read behind it -/
theorem SimD.opt {T T' : List Tk} {n d : Int} (A : Agree T T' n d) (k : Int) (s : ByteArray) {g g' : RS → RS} (Sg : SimD n d g g') (ug : ∀ r, r.i ≤ (g r).i) : SimD n d (fun r => if mayB T k s r then g (mayD T k s r) else r) (fun r => if mayB T' k s r then g' (mayD T' k s r) else r) := by
  intro r r' h h0 he hn
  have hlt : r.i < n := by
    have u1 := may_up T k s r
    have u2 := ug (mayD T k s r)
    dsimp only at hn
    split at hn <;> omega
  dsimp only at he hn ⊢
  rw [mayB_sim A k s h h0 hlt]
  split at he
  · rename_i w
    rw [if_pos w] at hn ⊢
    rw [if_pos w]
    exact Sg _ _ (may_sim A k s h h0 hlt) (by have := may_up T k s r; omega) he hn
  · rename_i w
    rw [if_neg w, if_neg w]
    exact h
theorem sim_stage {T T' : List Tk} {n d : Int} (A : Agree T T' n d) : SimD n d (stageD T) (stageD T') :=
  (sim_toName A).comp (SimD.opt A 2 wIn (sim_toStage A) (fun r => take_up T 1 r)) (fun r => take_up T 1 r) (fun r => by split; exact Int.le_trans (may_up T 2 wIn r) (take_up T 1 _); exact Int.le_refl _) (fun r h => by split at h; exact may_er (name_er h); exact h)
theorem sim_times {T T' : List Tk} {n d : Int} (A : Agree T T' n d) : SimD n d (timesD T) (timesD T') := by
  intro r r' h h0 he hn
  have hlt : r.i < n := by have := up_times T r; omega
  obtain ⟨e0, _, e2⟩ := A.tk r.i h0 hlt
  unfold timesD at he hn ⊢
  dsimp only at he hn ⊢
  rw [h.i, ← e0, ← e2]
  split at he
  · exact absurd (num_er he) (failD_er T (by decide) r)
  · rename_i w
    rw [if_neg w] at hn ⊢
    rw [if_neg w]
    obtain ⟨s1, v1⟩ := num_sim A h h0 he hn
    rw [v1]
    exact s1.putTimes _
theorem times_er {T : List Tk} {r : RS} (h : (timesD T r).er = 0) : r.er = 0 := by
  unfold timesD at h
  dsimp only at h
  split at h
  · exact absurd (num_er h) (failD_er T (by decide) r)
  · exact num_er h
theorem sim_on {T T' : List Tk} {n d : Int} (A : Agree T T' n d) : SimD n d (onD T) (onD T') :=
  SimD.opt A 2 wOn (sim_toEvent A) (fun r => take_up T 1 r)
theorem on_er {T : List Tk} {r : RS} (h : (onD T r).er = 0) : r.er = 0 := by
  unfold onD at h
  split at h
  · exact may_er (name_er h)
  · exact h
theorem sim_if {T T' : List Tk} {n d : Int} (A : Agree T T' n d) : ∀ r r', RJ d r r' → 0 ≤ r.i → (ifD T r).er = 0 → (ifD T r).i < n → (∀ e l c, readP T false r.i = .bad e l c → e ≠ 0) → RJ d (ifD T r) (ifD T' r') := by
  intro r r' h h0 he hn hno
  unfold ifD at he hn ⊢
  cases hp : readP T false r.i with
  | bad e l c => rw [hp] at he; exact absurd he (hno e l c hp)
  | ok o a =>
    rw [hp] at hn
    obtain ⟨o', s1, m1⟩ := sim_read A false r.i o a h0 hn hp
    rw [h.i, s1]
    refine ⟨rfl, ?_, h.er, h.er'⟩
    have hx := h.x
    simp only [bareS, St.mk.injEq, setIf] at hx ⊢
    simp [hx, m1]

theorem if_er {T : List Tk} {r : RS} (h : (ifD T r).er = 0) : r.er = 0 := by
  unfold ifD at h
  cases hp : readP T false r.i with
  | bad e l c => rw [hp] at h; exact absurd h (readD_no hp)
  | ok o a => rw [hp] at h; exact h
theorem sim_ifD {T T' : List Tk} {n d : Int} (A : Agree T T' n d) : SimD n d (ifD T) (ifD T') := fun r r' h h0 he hn => sim_if A r r' h h0 he hn (fun _ _ _ hp => readD_no hp)
theorem sim_sentry {T T' : List Tk} {n d : Int} (A : Agree T T' n d) : SimD n d (sentryD T) (sentryD T') :=
  (sim_on A).comp (SimD.opt A 2 wIf (sim_ifD A) (fun r => up_if T r)) (fun r => up_on T r) (fun r => by split; exact Int.le_trans (may_up T 2 wIf r) (up_if T _); exact Int.le_refl _) (fun r h => by split at h; exact may_er (if_er h); exact h)
theorem sentry_er {T : List Tk} {r : RS} (h : (sentryD T r).er = 0) : r.er = 0 := by
  unfold sentryD at h
  split at h
  · exact on_er (may_er (if_er h))
  · exact on_er h
theorem sim_guard {T T' : List Tk} {n d : Int} (A : Agree T T' n d) : SimD n d (guardD T) (guardD T') :=
  (sim_toStage A).comp (sim_sentry A) (fun r => take_up T 1 r) (fun r => up_sentry T r) (fun _ h => sentry_er h)
theorem sim_final {T T' : List Tk} {n d : Int} (A : Agree T T' n d) : SimD n d (fun r => setFinal (mayB T 2 wFinal r) (mayD T 2 wFinal r)) (fun r => setFinal (mayB T' 2 wFinal r) (mayD T' 2 wFinal r)) := by
  intro r r' h h0 he hn
  have hn2 : (mayD T 2 wFinal r).i < n := hn
  have hlt : r.i < n := by have := may_up T 2 wFinal r; omega
  dsimp only
  rw [mayB_sim A 2 wFinal h h0 hlt]
  exact (may_sim A 2 wFinal h h0 hlt).putFinal _
theorem sim_mile {T T' : List Tk} {n d : Int} (A : Agree T T' n d) : SimD n d (mileD T) (mileD T') := by
  have S1 := (sim_toName A).comp (sim_need A 2 wOf) (fun r => take_up T 1 r) (fun r => need_up T 2 wOf r) (fun _ h => need_er h)
  have S2 := S1.comp (sim_toStage A) (fun r => Int.le_trans (take_up T 1 r) (need_up T 2 wOf (setName (nameV T r) (nameD T r)))) (fun r => take_up T 1 r) (fun _ h => name_er h)
  have u2 : ∀ r : RS, r.i ≤ (setStage (nameV T (needD T 2 wOf (setName (nameV T r) (nameD T r)))) (nameD T (needD T 2 wOf (setName (nameV T r) (nameD T r))))).i := fun r => Int.le_trans (Int.le_trans (take_up T 1 r) (need_up T 2 wOf (setName (nameV T r) (nameD T r)))) (take_up T 1 _)
  have S3 := S2.comp (sim_sentry A) u2 (fun r => up_sentry T r) (fun _ h => sentry_er h)
  exact S3.comp (sim_final A) (fun r => Int.le_trans (u2 r) (up_sentry T _)) (fun r => may_up T 2 wFinal r) (fun _ h => may_er h)
theorem sim_sod {T T' : List Tk} {n d : Int} (A : Agree T T' n d) : SimD n d (sodD T) (sodD T') := by
  intro r r' h h0 he hn
  have he3 : (nameD T (needD T 4 sComma (nameD T r))).er = 0 := he
  have hn3 : (nameD T (needD T 4 sComma (nameD T r))).i < n := hn
  have u3 : (needD T 4 sComma (nameD T r)).i ≤ (nameD T (needD T 4 sComma (nameD T r))).i := take_up T 1 _
  have u2 : (nameD T r).i ≤ (needD T 4 sComma (nameD T r)).i := need_up T 4 sComma _
  have u1 : r.i ≤ (nameD T r).i := take_up T 1 r
  have he2 := name_er he3
  have he1 := need_er he2
  obtain ⟨m1, v1⟩ := name_sim A h h0 he1 (by omega)
  have m2 := need_sim A 4 sComma m1 (by omega) he2 (by omega)
  obtain ⟨m3, v3⟩ := name_sim A m2 (by omega) he3 hn3
  unfold sodD
  dsimp only
  rw [v1, v3]
  exact m3.putNames _

theorem sim_evHead {T T' : List Tk} {n d : Int} (A : Agree T T' n d) : SimD n d (evHead T) (evHead T') := by
  have u1 : ∀ r : RS, r.i ≤ (needD T 2 wBy (setName (nameV T r) (nameD T r))).i := fun r => Int.le_trans (take_up T 1 r) (need_up T 2 wBy (setName (nameV T r) (nameD T r)))
  have S1 := (sim_toName A).comp (sim_need A 2 wBy) (fun r => take_up T 1 r) (fun r => need_up T 2 wBy r) (fun _ h => need_er h)
  have S2 := S1.comp (sim_toRole A) u1 (fun r => take_up T 1 r) (fun _ h => name_er h)
  have u2 : ∀ r : RS, r.i ≤ (setRole (nameV T (needD T 2 wBy (setName (nameV T r) (nameD T r)))) (nameD T (needD T 2 wBy (setName (nameV T r) (nameD T r))))).i := fun r => Int.le_trans (u1 r) (take_up T 1 _)
  have S3 := S2.comp (sim_need A 2 wIn) u2 (fun r => need_up T 2 wIn r) (fun _ h => need_er h)
  exact S3.comp (sim_toStage A) (fun r => Int.le_trans (u2 r) (need_up T 2 wIn _)) (fun r => take_up T 1 r) (fun _ h => name_er h)
theorem sim_setsM {T T' : List Tk} {n d : Int} (A : Agree T T' n d) : SimD n d (fun r => setsL T (T.length + 1) (moreD T r)) (fun r => setsL T' (T'.length + 1) (moreD T' r)) := by
  intro r r' h h0 he hn
  have hl := A.lo
  have u1 := up_more T r
  have u2 := up_setsL T (T.length + 1) (moreD T r)
  have hn2 : (setsL T (T.length + 1) (moreD T r)).i < n := hn
  have m := sim_more A r r' h h0 (setsL_er _ he) (by omega)
  exact setsL_sim A _ _ _ _ (by omega) (by omega) m (by omega) he hn2
theorem up_evHead {T : List Tk} (r : RS) : r.i ≤ (evHead T r).i := by
  obtain ⟨r1, e1⟩ : ∃ q, setName (nameV T r) (nameD T r) = q := ⟨_, rfl⟩
  have u1 : r.i ≤ r1.i := by rw [← e1]; exact take_up T 1 r
  obtain ⟨r2, e2⟩ : ∃ q, needD T 2 wBy r1 = q := ⟨_, rfl⟩
  have u2 : r1.i ≤ r2.i := by rw [← e2]; exact need_up T 2 wBy r1
  obtain ⟨r3, e3⟩ : ∃ q, setRole (nameV T r2) (nameD T r2) = q := ⟨_, rfl⟩
  have u3 : r2.i ≤ r3.i := by rw [← e3]; exact take_up T 1 r2
  obtain ⟨r4, e4⟩ : ∃ q, needD T 2 wIn r3 = q := ⟨_, rfl⟩
  have u4 : r3.i ≤ r4.i := by rw [← e4]; exact need_up T 2 wIn r3
  have u5 : r4.i ≤ (setStage (nameV T r4) (nameD T r4)).i := take_up T 1 r4
  have e : evHead T r = setStage (nameV T r4) (nameD T r4) := by simp only [evHead, e1, e2, e3, e4]
  rw [e]; omega
theorem up_evSets {T : List Tk} (r : RS) : r.i ≤ (evSets T r).i := by
  unfold evSets
  split
  · exact Int.le_trans (may_up T 2 wSets _) (Int.le_trans (up_more T _) (up_setsL T _ _))
  · exact Int.le_refl _
theorem evSets_er {T : List Tk} {r : RS} (h : (evSets T r).er = 0) : r.er = 0 := by
  unfold evSets at h
  split at h
  · exact may_er (more_er (setsL_er _ h))
  · exact h
theorem up_evMax {T : List Tk} (r : RS) : r.i ≤ (evMax T r).i := by
  unfold evMax
  split
  · exact Int.le_trans (may_up T 2 wMax _) (up_times T _)
  · exact Int.le_refl _
theorem evMax_er {T : List Tk} {r : RS} (h : (evMax T r).er = 0) : r.er = 0 := by
  unfold evMax at h
  split at h
  · exact may_er (times_er h)
  · exact h
theorem sim_event {T T' : List Tk} {n d : Int} (A : Agree T T' n d) : SimD n d (eventD T) (eventD T') := by
  have us : ∀ r : RS, r.i ≤ (setsL T (T.length + 1) (moreD T r)).i := fun r => Int.le_trans (up_more T r) (up_setsL T _ _)
  have S0 : SimD n d (evSets T) (evSets T') := SimD.opt A 2 wSets (sim_setsM A) us
  have S9 : SimD n d (evMax T) (evMax T') := SimD.opt A 2 wMax (sim_times A) (fun r => up_times T r)
  have S1 := (sim_evHead A).comp S0 up_evHead up_evSets (fun _ h => evSets_er h)
  have S2 := S1.comp S9 (fun r => Int.le_trans (up_evHead r) (up_evSets _)) up_evMax (fun _ h => evMax_er h)
  exact S2
theorem sim_rule {T T' : List Tk} {n d : Int} (A : Agree T T' n d) (k : Int) : SimD n d (ruleD T k) (ruleD T' k) := by
  intro r r' h h0 he hn
  unfold ruleD at he hn ⊢
  split at he
  · rename_i w; rw [if_pos w] at hn ⊢; rw [if_pos w]; exact sim_attr A r r' h h0 he hn
  rename_i w; rw [if_neg w] at hn ⊢; rw [if_neg w]
  split at he
  · rename_i w; rw [if_pos w] at hn ⊢; rw [if_pos w]; exact sim_user A r r' h h0 he hn
  rename_i w; rw [if_neg w] at hn ⊢; rw [if_neg w]
  split at he
  · rename_i w; rw [if_pos w] at hn ⊢; rw [if_pos w]; exact sim_role A r r' h h0 he hn
  rename_i w; rw [if_neg w] at hn ⊢; rw [if_neg w]
  split at he
  · rename_i w; rw [if_pos w] at hn ⊢; rw [if_pos w]; exact sim_stage A r r' h h0 he hn
  rename_i w; rw [if_neg w] at hn ⊢; rw [if_neg w]
  split at he
  · rename_i w; rw [if_pos w] at hn ⊢; rw [if_pos w]; exact sim_event A r r' h h0 he hn
  rename_i w; rw [if_neg w] at hn ⊢; rw [if_neg w]
  split at he
  · rename_i w; rw [if_pos w] at hn ⊢; rw [if_pos w]; exact sim_guard A r r' h h0 he hn
  rename_i w; rw [if_neg w] at hn ⊢; rw [if_neg w]
  split at he
  · rename_i w; rw [if_pos w] at hn ⊢; rw [if_pos w]; exact sim_mile A r r' h h0 he hn
  rename_i w; rw [if_neg w] at hn ⊢; rw [if_neg w]
  exact sim_sod A r r' h h0 he hn

end Go.Proofs.YthlofmnmacpogaaGreatDoor

namespace Go.Proofs.YthlofmnmacpogaaGreatDoor
open Go.RowKit

theorem get_list (P : ByteArray) (k : Nat) : P.get! k = P.data.toList.getD k 0 := by
  cases P with | mk bs =>
  show bs[k]! = bs.toList.getD k 0
  rw [List.getD_eq_getElem?_getD, Array.getElem?_toList, getElem!_def]
  cases bs[k]? with
  | none => rfl
  | some x => rfl
theorem ext_list (P : ByteArray) (b e : Nat) : (P.extract b e).data.toList = (P.data.toList.drop b).take (e - b) := by
  simp [ByteArray.data_extract, List.extract_eq_take_drop]
theorem ba_ext {a b : ByteArray} (h : a.data.toList = b.data.toList) : a = b := by
  cases a; cases b
  simp only [ByteArray.mk.injEq]
  exact Array.toList_inj.1 h
theorem take_one {l : List UInt8} {n : Nat} {x : UInt8} (h : l[n]? = some x) : (l.drop n).take 1 = [x] := by
  obtain ⟨hn, rfl⟩ := List.getElem?_eq_some_iff.1 h
  rw [List.drop_eq_getElem_cons hn]; rfl
/-- what a byte of ASCII is -/
theorem dec_ascii {P : ByteArray} {p : Nat} (h : (P.get! p).toNat < 128) : decR P p = ((P.get! p).toNat : Int) ∧ decN P p = 1 := by
  have hd : Utf8.decode P p = ((P.get! p).toNat, 1) := by
    unfold Utf8.decode
    simp only [Nat.add_zero]
    rw [if_pos h]
  unfold decR decN
  rw [hd]
  refine ⟨?_, rfl⟩
  rw [if_neg (by omega)]
theorem run_step {P : ByteArray} {L : List Rn} {k i j : Nat} {T U : List Tk} (hi : i < L.length) (h : oneT P L i T = ⟨0, 0, 0, j, U⟩) : runT P L (k + 1) i T = runT P L k j U := by
  rw [runT, if_pos hi, h]; rfl
theorem one_blank {P : ByteArray} {L : List Rn} {i : Nat} {T : List Tk} (h : rAt L i = 10) : oneT P L i T = ⟨0, 0, 0, i + 1, T⟩ := by
  unfold oneT; rw [h]; rfl

end Go.Proofs.YthlofmnmacpogaaGreatDoor
