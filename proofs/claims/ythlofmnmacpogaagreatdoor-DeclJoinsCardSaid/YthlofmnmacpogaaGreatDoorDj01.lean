/- Plain: a condition reads alike in two lists of tokens that agree, but for places. -/
import Derived.Test.YthlofmnmacpogaaGreatDoorDe04

namespace Go.Proofs.YthlofmnmacpogaaGreatDoor
open Go.RowKit

def bare (x : It) : It := { x with line := 0, col := 0 }
/-- two lists of tokens agree on the first n of the first, d ahead -/
structure Agree (T T' : List Tk) (n d : Int) : Prop where
  lo : 0 ≤ d
  len : n ≤ T.length
  len' : n + d ≤ T'.length
  tk : ∀ i : Int, 0 ≤ i → i < n → (tkAt T i).kind = (tkAt T' (i + d)).kind ∧ (tkAt T i).text = (tkAt T' (i + d)).text ∧ (tkAt T i).num = (tkAt T' (i + d)).num
theorem Agree.isTk {T T' : List Tk} {n d : Int} (A : Agree T T' n d) {i : Int} (h0 : 0 ≤ i) (h1 : i < n) (k : Int) (s : ByteArray) : isTk T' (i + d) k s = isTk T i k s := by
  obtain ⟨e0, e1, _⟩ := A.tk i h0 h1
  unfold Proofs.YthlofmnmacpogaaGreatDoor.isTk
  rw [e0, e1]
theorem Agree.word {T T' : List Tk} {n d : Int} (A : Agree T T' n d) {i : Int} (h0 : 0 ≤ i) (h1 : i < n) : isWord (tkAt T' (i + d)) = isWord (tkAt T i) ∧ wordName (tkAt T' (i + d)) = wordName (tkAt T i) ∧ wordNum (tkAt T' (i + d)) = wordNum (tkAt T i) := by
  obtain ⟨e0, e1, e2⟩ := A.tk i h0 h1
  unfold isWord wordName wordNum
  rw [e0, e1, e2]
  exact ⟨rfl, rfl, rfl⟩
theorem Agree.comp {T T' : List Tk} {n d : Int} (A : Agree T T' n d) {i : Int} (h0 : 0 ≤ i) (h1 : i < n) : compN T' (i + d) = compN T i := by
  obtain ⟨e0, e1, _⟩ := A.tk i h0 h1
  unfold compN
  rw [e0, e1]
/-- f' answers d ahead as f does -/
def Sim (n d : Int) (f f' : Int → PR) : Prop := ∀ i o a, 0 ≤ i → a < n → f i = .ok o a → ∃ o', f' (i + d) = .ok o' (a + d) ∧ o'.map bare = o.map bare

theorem bad_no {T : List Tk} {i e : Int} {o : List It} {a : Int} (h : badP T i e = .ok o a) : False := by unfold badP at h; cases h
theorem sim_bad (T T' : List Tk) (n d e : Int) : Sim n d (fun i => badP T i e) (fun i => badP T' i e) := fun _ _ _ _ _ h => (bad_no h).elim
theorem sim_comp {T T' : List Tk} {n d : Int} (A : Agree T T' n d) : Sim n d (compP T) (compP T') := by
  intro i o a hi ha h
  unfold compP at h
  split at h
  · rename_i w0
    split at h
    · exact (bad_no h).elim
    · rename_i w1
      split at h
      · rename_i w2
        injection h with h1 h2
        subst h1 h2
        obtain ⟨a0, b0, c0⟩ := A.word hi (show i < n by omega)
        obtain ⟨a2, b2, c2⟩ := A.word (show 0 ≤ i + 2 by omega) (show i + 2 < n by omega)
        have a1 := A.comp (show 0 ≤ i + 1 by omega) (show i + 1 < n by omega)
        rw [show i + 1 + d = i + d + 1 by omega] at a1
        rw [show i + 2 + d = i + d + 2 by omega] at a2 b2 c2
        refine ⟨[⟨compN T' (i + d + 1), wordName (tkAt T' (i + d)), wordNum (tkAt T' (i + d)), wordName (tkAt T' (i + d + 2)), wordNum (tkAt T' (i + d + 2)), ⟨#[]⟩, ⟨#[]⟩, (tkAt T' (i + d)).line, (tkAt T' (i + d)).col⟩], ?_, ?_⟩
        · unfold compP
          rw [if_pos (by rw [a0]; exact w0), if_neg (by rw [a1]; exact w1), if_pos (by rw [a2]; exact w2), show i + 3 + d = i + d + 3 by omega]
        · simp only [List.map_cons, List.map_nil, bare, b0, c0, a1, b2, c2]
      · exact (bad_no h).elim
  · exact (bad_no h).elim
theorem sim_named {T T' : List Tk} {n d : Int} (A : Agree T T' n d) (op : Int) : Sim n d (fun i => namedP T i op) (fun i => namedP T' i op) := by
  intro i o a hi ha h
  simp only [namedP] at h
  split at h
  · rename_i w0
    injection h with h1 h2
    subst h1 h2
    obtain ⟨e0, e1, _⟩ := A.tk (i + 1) (by omega) (by omega)
    rw [show i + 1 + d = i + d + 1 by omega] at e0 e1
    refine ⟨[⟨op, ⟨#[]⟩, 0, ⟨#[]⟩, 0, (tkAt T' (i + d + 1)).text, ⟨#[]⟩, (tkAt T' (i + d + 1)).line, (tkAt T' (i + d + 1)).col⟩], ?_, ?_⟩
    · simp only [namedP]
      rw [if_pos (by rw [← e0]; exact w0), show i + 2 + d = i + d + 2 by omega]
    · simp only [List.map_cons, List.map_nil, bare, e1]
  · exact (bad_no h).elim
theorem sim_did {T T' : List Tk} {n d : Int} (A : Agree T T' n d) : Sim n d (didP T) (didP T') := by
  intro i o a hi ha h
  unfold didP at h
  split at h
  · rename_i w0
    split at h
    · rename_i w1
      injection h with h1 h2
      subst h1 h2
      obtain ⟨e0, e1, _⟩ := A.tk (i + 1) (by omega) (by omega)
      obtain ⟨e2, e3, _⟩ := A.tk (i + 2) (by omega) (by omega)
      rw [show i + 1 + d = i + d + 1 by omega] at e0 e1
      rw [show i + 2 + d = i + d + 2 by omega] at e2 e3
      refine ⟨[⟨12, ⟨#[]⟩, 0, ⟨#[]⟩, 0, (tkAt T' (i + d + 2)).text, (tkAt T' (i + d + 1)).text, (tkAt T' (i + d + 1)).line, (tkAt T' (i + d + 1)).col⟩], ?_, ?_⟩
      · unfold didP
        rw [if_pos (by rw [← e0]; exact w0), if_pos (by rw [← e2]; exact w1), show i + 3 + d = i + d + 3 by omega]
      · simp only [List.map_cons, List.map_nil, bare, e1, e3]
    · exact (bad_no h).elim
  · exact (bad_no h).elim
theorem bare_item (op : Int) (t t' : Tk) : bare (item op t) = bare (item op t') := rfl
theorem sim_item {T T' : List Tk} {n d : Int} (op : Int) : Sim n d (fun i => .ok [item op (tkAt T i)] (i + 1)) (fun i => .ok [item op (tkAt T' i)] (i + 1)) := by
  intro i o a _ _ h
  injection h with h1 h2
  subst h1 h2
  exact ⟨[item op (tkAt T' (i + d))], by show PR.ok _ (i + d + 1) = _; rw [show i + 1 + d = i + d + 1 by omega], rfl⟩
theorem sim_atom {T T' : List Tk} {n d : Int} (A : Agree T T' n d) (prop : Bool) {i : Int} {o : List It} {a : Int} (hi : 0 ≤ i) (hin : i < n) (ha : a < n) (h : atomP T prop i = .ok o a) : ∃ o', atomP T' prop (i + d) = .ok o' (a + d) ∧ o'.map bare = o.map bare := by
  obtain ⟨_, et, _⟩ := A.tk i hi hin
  unfold atomP at h ⊢
  rw [et] at h
  split at h
  · rename_i w; rw [if_pos w]; exact sim_named A 9 i o a hi ha h
  rename_i w; rw [if_neg w]
  split at h
  · rename_i w; rw [if_pos w]; exact sim_named A 10 i o a hi ha h
  rename_i w; rw [if_neg w]
  split at h
  · rename_i w; rw [if_pos w]; exact sim_item 1 i o a hi ha h
  rename_i w; rw [if_neg w]
  split at h
  · rename_i w; rw [if_pos w]; exact sim_item 2 i o a hi ha h
  rename_i w; rw [if_neg w]
  split at h
  · exact (bad_no h).elim
  rename_i w; rw [if_neg w]
  split at h
  · rename_i w; rw [if_pos w]; exact sim_named A 11 i o a hi ha h
  rename_i w; rw [if_neg w]
  split at h
  · rename_i w; rw [if_pos w]; exact sim_did A i o a hi ha h
  rename_i w; rw [if_neg w]
  split at h
  · rename_i w; rw [if_pos w]; exact sim_item 13 i o a hi ha h
  rename_i w; rw [if_neg w]
  split at h
  · rename_i w; rw [if_pos w]; exact sim_item 14 i o a hi ha h
  · exact (bad_no h).elim

theorem alsoJ_ok {p : PR} {f : List It → Int → PR} {o : List It} {a : Int} (h : p.also f = .ok o a) : ∃ o1 a1, p = .ok o1 a1 ∧ f o1 a1 = .ok o a := by
  cases p with
  | ok o1 a1 => exact ⟨o1, a1, rfl, h⟩
  | bad e l c => cases h
theorem needJ_ok {T : List Tk} {i k : Int} {s : ByteArray} {f : Int → PR} {o : List It} {a : Int} (h : needP T i k s f = .ok o a) : isTk T i k s = true ∧ f (i + 1) = .ok o a := by
  unfold needP at h
  split at h
  · rename_i w; exact ⟨w, h⟩
  · exact (bad_no h).elim
theorem needJ_mk {T : List Tk} {i k : Int} {s : ByteArray} {f : Int → PR} (h : isTk T i k s = true) : needP T i k s f = f (i + 1) := by
  unfold needP; rw [if_pos h]
theorem alsoJ_mk (o : List It) (a : Int) (f : List It → Int → PR) : (PR.ok o a).also f = f o a := rfl
theorem sim_until {T T' : List Tk} {n d : Int} (A : Agree T T' n d) {form form' : Int → PR} (S : Sim n d form form') (G : ∀ i o a, form i = .ok o a → i < a) (op : Int) : Sim n d (untilP T form op) (untilP T' form' op) := by
  intro i o a hi ha h
  unfold untilP at h
  obtain ⟨w1, h⟩ := needJ_ok h
  obtain ⟨o1, b, h1, h⟩ := alsoJ_ok h
  obtain ⟨w2, h⟩ := needJ_ok h
  obtain ⟨o2, c, h2, h⟩ := alsoJ_ok h
  obtain ⟨w3, h⟩ := needJ_ok h
  injection h with e1 e2
  subst e1 e2
  have g1 := G _ _ _ h1
  have g2 := G _ _ _ h2
  obtain ⟨p1, s1, m1⟩ := S _ _ _ (by omega) (by omega) h1
  obtain ⟨p2, s2, m2⟩ := S _ _ _ (by omega) (by omega) h2
  rw [show i + 1 + 1 + d = i + d + 1 + 1 by omega] at s1
  rw [show b + 1 + d = b + d + 1 by omega] at s2
  refine ⟨p1 ++ p2 ++ [item op (tkAt T' (i + d))], ?_, ?_⟩
  · unfold untilP
    rw [needJ_mk (by rw [show i + d + 1 = i + 1 + d by omega, A.isTk (by omega) (by omega)]; exact w1), s1]
    rw [alsoJ_mk]
    rw [needJ_mk (by rw [A.isTk (by omega) (by omega)]; exact w2), s2]
    rw [alsoJ_mk]
    rw [needJ_mk (by rw [A.isTk (by omega) (by omega)]; exact w3), show c + 1 + d = c + d + 1 by omega]
  · simp only [List.map_append, m1, m2]; rfl
theorem sim_tail {T T' : List Tk} {n d : Int} {sg sg' : Int → PR} (S : Sim n d sg sg') (op : Int) : Sim n d (fun i => (sg (i + 1)).also fun o a => .ok (o ++ [item op (tkAt T i)]) a) (fun i => (sg' (i + 1)).also fun o a => .ok (o ++ [item op (tkAt T' i)]) a) := by
  intro i o a hi ha h
  obtain ⟨o1, b, h1, h⟩ := alsoJ_ok h
  injection h with e1 e2
  subst e1 e2
  obtain ⟨p1, s1, m1⟩ := S _ _ _ (by omega) ha h1
  rw [show i + 1 + d = i + d + 1 by omega] at s1
  refine ⟨p1 ++ [item op (tkAt T' (i + d))], ?_, ?_⟩
  · show (sg' (i + d + 1)).also _ = _
    rw [s1]; rfl
  · simp only [List.map_append, m1]; rfl
theorem sim_sign {T T' : List Tk} {n d : Int} (A : Agree T T' n d) (prop : Bool) {sg sg' form form' : Int → PR} (Ss : Sim n d sg sg') (Sf : Sim n d form form') (G : ∀ i o a, form i = .ok o a → i < a) (GS : ∀ i o a, signP T prop sg form i = .ok o a → i < a) : Sim n d (signP T prop sg form) (signP T' prop sg' form') := by
  intro i o a hi ha h
  have hin : i < n := by have := GS _ _ _ h; omega
  obtain ⟨ek, et, _⟩ := A.tk i hi hin
  have e4 := A.isTk hi hin 4 sOpen
  unfold signP at h ⊢
  rw [e4]
  rw [ek, et] at h
  split at h
  · rename_i w
    rw [if_pos w]
    obtain ⟨o1, b, h1, h⟩ := alsoJ_ok h
    obtain ⟨w2, h⟩ := needJ_ok h
    injection h with e1 e2
    subst e1 e2
    obtain ⟨p1, s1, m1⟩ := Sf _ _ _ (by omega) (by omega) h1
    have g1 := G _ _ _ h1
    rw [show i + 1 + d = i + d + 1 by omega] at s1
    refine ⟨p1, ?_, m1⟩
    rw [s1]
    rw [alsoJ_mk]
    rw [needJ_mk (by rw [A.isTk (by omega) (by omega)]; exact w2), show b + 1 + d = b + d + 1 by omega]
  rename_i w; rw [if_neg w]
  split at h
  · rename_i w; rw [if_pos w]; exact sim_comp A i o a hi ha h
  rename_i w; rw [if_neg w]
  split at h
  · rename_i w; rw [if_pos w]; exact sim_tail Ss 15 i o a hi ha h
  rename_i w; rw [if_neg w]
  split at h
  · exact (bad_no h).elim
  rename_i w; rw [if_neg w]
  split at h
  · rename_i w; rw [if_pos w]; exact sim_until A Sf G 25 i o a hi ha h
  rename_i w; rw [if_neg w]
  split at h
  · rename_i w; rw [if_pos w]; exact sim_until A Sf G 26 i o a hi ha h
  rename_i w; rw [if_neg w]
  split at h
  · rename_i w; rw [if_pos w]; exact sim_atom A prop hi hin ha h
  rename_i w; rw [if_neg w]
  exact sim_tail Ss _ i o a hi ha h

theorem rowP_up {T : List Tk} {one : Int → PR} (G : ∀ i o a, one i = .ok o a → i < a) (wd : ByteArray) (op : Int) : ∀ (k : Nat) (i : Int) (out o : List It) (a : Int), rowP T one wd op k i out = .ok o a → i ≤ a
  | 0, i, out, o, a, h => by injection h with e1 e2; omega
  | k + 1, i, out, o, a, h => by
    unfold rowP at h
    split at h
    · obtain ⟨o1, b, h1, h⟩ := alsoJ_ok h
      have g1 := G _ _ _ h1
      have := rowP_up G wd op k b _ o a h
      omega
    · injection h with e1 e2; omega
theorem rowJ {T T' : List Tk} {n d : Int} (A : Agree T T' n d) {one one' : Int → PR} (S : Sim n d one one') (G : ∀ i o a, one i = .ok o a → i < a) (wd : ByteArray) (op : Int) : ∀ (k k' : Nat) (i : Int) (out out' : List It) (o : List It) (a : Int), 0 ≤ i → (T.length : Int) < i + k → (T'.length : Int) < i + d + k' → out'.map bare = out.map bare → a < n → rowP T one wd op k i out = .ok o a → i ≤ a ∧ ∃ o', rowP T' one' wd op k' (i + d) out' = .ok o' (a + d) ∧ o'.map bare = o.map bare
  | 0, k', i, out, out', o, a, hi, hk, hk', hm, ha, h => by
    have hl := A.len
    injection h with e1 e2
    subst e1 e2
    omega
  | k + 1, k', i, out, out', o, a, hi, hk, hk', hm, ha, h => by
    have hl := A.len
    have hl' := A.len'
    unfold rowP at h
    split at h
    · rename_i w
      obtain ⟨o1, b, h1, h⟩ := alsoJ_ok h
      have g1 := G _ _ _ h1
      have hia : i < a := by
        have := (rowP_up G wd op k b _ o a h)
        omega
      obtain ⟨p1, s1, m1⟩ := S _ _ _ (by omega) (by have := (rowP_up G wd op k b _ o a h); omega) h1
      rw [show i + 1 + d = i + d + 1 by omega] at s1
      obtain ⟨q', rfl⟩ : ∃ q', k' = q' + 1 := ⟨k' - 1, by omega⟩
      obtain ⟨_, p2, s2, m2⟩ := rowJ A S G wd op k q' b (out ++ o1 ++ [item op (tkAt T i)]) (out' ++ p1 ++ [item op (tkAt T' (i + d))]) o a (by omega) (by omega) (by omega) (by simp only [List.map_append, hm, m1]; rfl) ha h
      refine ⟨by omega, p2, ?_, m2⟩
      rw [rowP, if_pos (by rw [A.isTk hi (by omega)]; exact w), s1, alsoJ_mk]
      exact s2
    · rename_i w
      injection h with e1 e2
      subst e1 e2
      obtain ⟨q', rfl⟩ : ∃ q', k' = q' + 1 := ⟨k' - 1, by omega⟩
      refine ⟨Int.le_refl _, out', ?_, hm⟩
      rw [rowP, if_neg (by rw [A.isTk hi ha]; exact w)]
theorem sim_rows {T T' : List Tk} {n d : Int} (A : Agree T T' n d) {one one' : Int → PR} (S : Sim n d one one') (G : ∀ i o a, one i = .ok o a → i < a) (wd : ByteArray) (op : Int) : Sim n d (rowsP T one wd op) (rowsP T' one' wd op) := by
  intro i o a hi ha h
  unfold rowsP at h
  obtain ⟨o1, b, h1, h⟩ := alsoJ_ok h
  have g1 := G _ _ _ h1
  have hba := rowP_up G wd op _ b _ o a h
  obtain ⟨p1, s1, m1⟩ := S _ _ _ hi (by omega) h1
  obtain ⟨_, p2, s2, m2⟩ := rowJ A S G wd op (T.length + 1) (T'.length + 1) b o1 p1 o a (by omega) (by omega) (by have := A.lo; omega) m1 ha h
  exact ⟨p2, by unfold rowsP; rw [s1, alsoJ_mk]; exact s2, m2⟩
theorem sim_form {T T' : List Tk} {n d : Int} (A : Agree T T' n d) {sg sg' form form' : Int → PR} (Ss : Sim n d sg sg') (Sf : Sim n d form form') (Gs : Good T sg) (Gf : Good T form) : Sim n d (formP T sg form) (formP T' sg' form') := by
  intro i o a hi ha h
  unfold formP at h
  obtain ⟨o1, b, h1, h⟩ := alsoJ_ok h
  have GA := rowsP_good Gs wAnd 16
  have GO := rowsP_good GA wOr 17
  have SR := sim_rows A (sim_rows A Ss (fun i o a h => (Gs i o a h).2.1) wAnd 16) (fun i o a h => (GA i o a h).2.1) wOr 17
  have g1 := (GO _ _ _ h1).2.1
  split at h
  · rename_i w
    obtain ⟨o2, c, h2, h⟩ := alsoJ_ok h
    injection h with e1 e2
    subst e1 e2
    have g2 := (Gf _ _ _ h2).2.1
    obtain ⟨p1, s1, m1⟩ := SR _ _ _ hi (by omega) h1
    obtain ⟨p2, s2, m2⟩ := Sf _ _ _ (by omega) ha h2
    rw [show b + 1 + d = b + d + 1 by omega] at s2
    refine ⟨p1 ++ p2 ++ [item 18 (tkAt T' (b + d))], ?_, ?_⟩
    · unfold formP
      rw [s1, alsoJ_mk, if_pos (by rw [A.isTk (by omega) (by omega)]; exact w), s2, alsoJ_mk]
    · simp only [List.map_append, m1, m2]; rfl
  · rename_i w
    injection h with e1 e2
    subst e1 e2
    obtain ⟨p1, s1, m1⟩ := SR _ _ _ hi ha h1
    exact ⟨p1, by unfold formP; rw [s1, alsoJ_mk, if_neg (by rw [A.isTk (by omega) (by omega)]; exact w)], m1⟩
theorem sim_both {T T' : List Tk} {n d : Int} (A : Agree T T' n d) (prop : Bool) : ∀ k, Sim n d (bothP T prop k).1 (bothP T' prop k).1 ∧ Sim n d (bothP T prop k).2 (bothP T' prop k).2
  | 0 => ⟨sim_bad T T' n d 5, sim_bad T T' n d 5⟩
  | k + 1 => by
    obtain ⟨s1, s2⟩ := sim_both A prop k
    obtain ⟨g1, g2⟩ := both_good T prop k
    have gs := signP_good (prop := prop) g1 g2
    have ss := sim_sign A prop s1 s2 (fun i o a h => (g2 i o a h).2.1) (fun i o a h => (gs i o a h).2.1)
    exact ⟨ss, sim_form A ss s2 gs g2⟩

end Go.Proofs.YthlofmnmacpogaaGreatDoor
