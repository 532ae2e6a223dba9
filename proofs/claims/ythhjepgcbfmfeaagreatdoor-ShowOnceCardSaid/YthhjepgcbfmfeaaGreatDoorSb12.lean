/- Plain: what is read lies within the tokens, and has no more items than tokens. Plain: a condition is the same as a property, and a property with signs of time is no condition; what is read is a formula. -/
import Derived.Test.YthhjepgcbfmfeaaGreatDoorSb11

namespace Go.Proofs.YthhjepgcbfmfeaaGreatDoor
open Go.RowKit

def Good (T : List Tk) (one : Int → PR) : Prop := ∀ i o a, one i = .ok o a → 0 ≤ i ∧ i < a ∧ a ≤ T.length ∧ (o.length : Int) ≤ a - i

theorem tkAt_in {T : List Tk} {i : Int} (h : (tkAt T i).kind ≠ 5) : 0 ≤ i ∧ i < T.length := by
  unfold tkAt at h
  split at h
  · exact absurd rfl h
  · split at h
    · rename_i h1 x hx
      have := (List.getElem?_eq_some_iff.1 hx).1
      omega
    · exact absurd rfl h
theorem isTk_kind {T : List Tk} {i kind : Int} {s : ByteArray} (h : isTk T i kind s = true) : (tkAt T i).kind = kind := by
  unfold isTk at h
  simp only [Bool.and_eq_true, decide_eq_true_eq] at h
  exact h.1
theorem isTk_in {T : List Tk} {i kind : Int} {s : ByteArray} (h : isTk T i kind s = true) (hk : kind ≠ 5) : 0 ≤ i ∧ i < T.length :=
  tkAt_in (by rw [isTk_kind h]; exact hk)

theorem also_ok {p : PR} {f : List It → Int → PR} {o : List It} {a : Int} (h : p.also f = .ok o a) : ∃ o1 a1, p = .ok o1 a1 ∧ f o1 a1 = .ok o a := by
  cases p with
  | ok o1 a1 => exact ⟨o1, a1, rfl, h⟩
  | bad er l c => cases h
theorem need_ok {T : List Tk} {i kind : Int} {s : ByteArray} {f : Int → PR} {o : List It} {a : Int} (h : needP T i kind s f = .ok o a) : isTk T i kind s = true ∧ f (i + 1) = .ok o a := by
  unfold needP at h
  split at h
  · rename_i hq; exact ⟨hq, h⟩
  · cases h

theorem rowP_good {T : List Tk} {one : Int → PR} (h : Good T one) (wd : ByteArray) (op : Int) : ∀ (k : Nat) (i : Int) (out : List It) (o : List It) (a : Int), 0 ≤ i → i ≤ T.length → rowP T one wd op k i out = .ok o a → i ≤ a ∧ a ≤ T.length ∧ (o.length : Int) - out.length ≤ a - i
  | 0, i, out, o, a, _, _, he => by
    simp only [rowP, PR.ok.injEq] at he
    obtain ⟨rfl, rfl⟩ := he
    omega
  | k + 1, i, out, o, a, h0, h1, he => by
    rw [rowP] at he
    split at he
    · rename_i hq
      obtain ⟨o1, a1, he1, he2⟩ := also_ok he
      have g1 := h _ _ _ he1
      have g2 := rowP_good h wd op k _ _ _ _ (by omega) (by omega) he2
      simp only [List.length_append, List.length_cons, List.length_nil] at g2
      omega
    · simp only [PR.ok.injEq] at he
      obtain ⟨rfl, rfl⟩ := he
      omega
theorem rowsP_good {T : List Tk} {one : Int → PR} (h : Good T one) (wd : ByteArray) (op : Int) : Good T (rowsP T one wd op) := by
  intro i o a he
  obtain ⟨o1, a1, he1, he2⟩ := also_ok he
  have g1 := h _ _ _ he1
  have g2 := rowP_good h wd op _ _ _ _ _ (by omega) (by omega) he2
  omega

theorem comp_sign {T : List Tk} {i : Int} (h : compN T i ≠ 0) : (tkAt T i).kind = 4 := by
  unfold compN at h
  split at h
  · exact absurd rfl h
  · rename_i h1; omega
theorem isWord_kind {t : Tk} (h : isWord t = true) : t.kind ≠ 5 := by
  unfold isWord at h
  simp only [Bool.or_eq_true, decide_eq_true_eq] at h
  omega
theorem compP_good (T : List Tk) : Good T (compP T) := by
  intro i o a he
  unfold compP at he
  split at he
  · rename_i h1
    have g1 := tkAt_in (isWord_kind h1)
    split at he
    · cases he
    · split at he
      · rename_i h2 h3
        have g3 := tkAt_in (isWord_kind h3)
        simp only [PR.ok.injEq] at he
        obtain ⟨rfl, rfl⟩ := he
        simp only [List.length_cons, List.length_nil]
        omega
      · cases he
  · cases he
theorem namedP_good (T : List Tk) (i : Int) (op : Int) (o : List It) (a : Int) (he : namedP T i op = .ok o a) : i < a ∧ a ≤ T.length ∧ (o.length : Int) ≤ a - i := by
  unfold namedP at he
  split at he
  · rename_i h1
    have g1 := tkAt_in (T := T) (i := i + 1) (by omega)
    simp only [PR.ok.injEq] at he
    obtain ⟨rfl, rfl⟩ := he
    simp only [List.length_cons, List.length_nil]
    omega
  · cases he
theorem didP_good (T : List Tk) (i : Int) (o : List It) (a : Int) (he : didP T i = .ok o a) : i < a ∧ a ≤ T.length ∧ (o.length : Int) ≤ a - i := by
  unfold didP at he
  split at he
  · split at he
    · rename_i h1 h2
      have g1 := tkAt_in (T := T) (i := i + 2) (by omega)
      simp only [PR.ok.injEq] at he
      obtain ⟨rfl, rfl⟩ := he
      simp only [List.length_cons, List.length_nil]
      omega
    · cases he
  · cases he
theorem item_good {T : List Tk} {i : Int} {x : It} {o : List It} {a : Int} (hi : 0 ≤ i ∧ i < T.length) (he : PR.ok [x] (i + 1) = .ok o a) : i < a ∧ a ≤ T.length ∧ (o.length : Int) ≤ a - i := by
  simp only [PR.ok.injEq] at he
  obtain ⟨rfl, rfl⟩ := he
  simp only [List.length_cons, List.length_nil]
  omega
theorem atomP_good (T : List Tk) (prop : Bool) (i : Int) (o : List It) (a : Int) (hi : 0 ≤ i ∧ i < T.length) (he : atomP T prop i = .ok o a) : i < a ∧ a ≤ T.length ∧ (o.length : Int) ≤ a - i := by
  unfold atomP at he
  split at he
  · exact namedP_good _ _ _ _ _ he
  split at he
  · exact namedP_good _ _ _ _ _ he
  split at he
  · exact item_good hi he
  split at he
  · exact item_good hi he
  split at he
  · cases he
  split at he
  · exact namedP_good _ _ _ _ _ he
  split at he
  · exact didP_good _ _ _ _ he
  split at he
  · exact item_good hi he
  split at he
  · exact item_good hi he
  · cases he
theorem untilP_good {T : List Tk} {form : Int → PR} (h : Good T form) (op i : Int) (o : List It) (a : Int) (he : untilP T form op i = .ok o a) : i < a ∧ a ≤ T.length ∧ (o.length : Int) ≤ a - i := by
  unfold untilP at he
  obtain ⟨h1, he⟩ := need_ok he
  obtain ⟨o1, b, hf, he⟩ := also_ok he
  obtain ⟨h2, he⟩ := need_ok he
  obtain ⟨o2, d, hf2, he⟩ := also_ok he
  obtain ⟨h3, he⟩ := need_ok he
  have g1 := h _ _ _ hf
  have g2 := h _ _ _ hf2
  have g3 := isTk_in h3 (by decide)
  simp only [PR.ok.injEq] at he
  obtain ⟨rfl, rfl⟩ := he
  simp only [List.length_append, List.length_cons, List.length_nil]
  omega
theorem signP_good {T : List Tk} {prop : Bool} {sg form : Int → PR} (hs : Good T sg) (hf : Good T form) : Good T (signP T prop sg form) := by
  intro i o a he
  unfold signP at he
  split at he
  · rename_i h1
    have g0 := isTk_in h1 (by decide)
    obtain ⟨o1, b, h2, he⟩ := also_ok he
    obtain ⟨h3, he⟩ := need_ok he
    have g1 := hf _ _ _ h2
    have g3 := isTk_in h3 (by decide)
    simp only [PR.ok.injEq] at he
    obtain ⟨rfl, rfl⟩ := he
    omega
  split at he
  · exact compP_good T i o a he
  rename_i hk
  have g0 := tkAt_in (T := T) (i := i) (by omega)
  split at he
  · obtain ⟨o1, b, h2, he⟩ := also_ok he
    have g1 := hs _ _ _ h2
    simp only [PR.ok.injEq] at he
    obtain ⟨rfl, rfl⟩ := he
    simp only [List.length_append, List.length_cons, List.length_nil]
    omega
  split at he
  · cases he
  split at he
  · exact ⟨g0.1, untilP_good hf _ _ _ _ he⟩
  split at he
  · exact ⟨g0.1, untilP_good hf _ _ _ _ he⟩
  split at he
  · exact ⟨g0.1, atomP_good T prop i o a g0 he⟩
  · obtain ⟨o1, b, h2, he⟩ := also_ok he
    have g1 := hs _ _ _ h2
    simp only [PR.ok.injEq] at he
    obtain ⟨rfl, rfl⟩ := he
    simp only [List.length_append, List.length_cons, List.length_nil]
    omega
theorem formP_good {T : List Tk} {sg form : Int → PR} (hs : Good T sg) (hf : Good T form) : Good T (formP T sg form) := by
  intro i o a he
  unfold formP at he
  obtain ⟨o1, b, h1, he⟩ := also_ok he
  have g1 := rowsP_good (rowsP_good hs wAnd 16) wOr 17 _ _ _ h1
  split at he
  · obtain ⟨o2, c, h2, he⟩ := also_ok he
    have g2 := hf _ _ _ h2
    simp only [PR.ok.injEq] at he
    obtain ⟨rfl, rfl⟩ := he
    simp only [List.length_append, List.length_cons, List.length_nil]
    omega
  · simp only [PR.ok.injEq] at he
    obtain ⟨rfl, rfl⟩ := he
    omega
theorem both_good (T : List Tk) (prop : Bool) : ∀ n, Good T (bothP T prop n).1 ∧ Good T (bothP T prop n).2
  | 0 => ⟨fun i o a h => (by have h : badP T i 5 = .ok o a := h; cases h), fun i o a h => (by have h : badP T i 5 = .ok o a := h; cases h)⟩
  | n + 1 => by
    have ih := both_good T prop n
    have hs := signP_good (prop := prop) ih.1 ih.2
    exact ⟨hs, formP_good hs ih.2⟩

end Go.Proofs.YthhjepgcbfmfeaaGreatDoor

namespace Go.Proofs.YthhjepgcbfmfeaaGreatDoor
open Go.RowKit

/-- an item of time -/
def timeB (op : Int) : Bool := (decide (11 ≤ op) && decide (op ≤ 14)) || decide (19 ≤ op)
def NoTime (o : List It) : Prop := ∀ x ∈ o, timeB x.op = false
theorem NoTime.nil : NoTime [] := fun _ h => by cases h
theorem NoTime.app {a b : List It} (ha : NoTime a) (hb : NoTime b) : NoTime (a ++ b) := fun x hx => (List.mem_append.1 hx).elim (ha x) (hb x)
theorem NoTime.one {x : It} (h : timeB x.op = false) : NoTime [x] := fun y hy => by rw [List.mem_singleton.1 hy]; exact h
theorem NoTime.left {a b : List It} (h : NoTime (a ++ b)) : NoTime a := fun x hx => h x (List.mem_append_left _ hx)
theorem NoTime.right {a b : List It} (h : NoTime (a ++ b)) : NoTime b := fun x hx => h x (List.mem_append_right _ hx)
theorem NoTime.head {x : It} (h : NoTime [x]) : timeB x.op = false := h x (List.mem_singleton_self _)

/-- f reads what g reads where that is without time -/
def Rel (f g : Int → PR) : Prop := (∀ i o a, f i = .ok o a → g i = .ok o a ∧ NoTime o) ∧ (∀ i o a, g i = .ok o a → NoTime o → f i = .ok o a)

theorem ok_inj {o o' : List It} {a a' : Int} (h : PR.ok o a = .ok o' a') : o = o' ∧ a = a' := by simpa using h

theorem rowP_rel1 {T : List Tk} {f g : Int → PR} (h : Rel f g) (wd : ByteArray) (op : Int) (hop : timeB op = false) : ∀ (k : Nat) (i : Int) (out o : List It) (a : Int), NoTime out → rowP T f wd op k i out = .ok o a → rowP T g wd op k i out = .ok o a ∧ NoTime o
  | 0, i, out, o, a, hn, he => by
    obtain ⟨rfl, rfl⟩ := ok_inj he
    exact ⟨rfl, hn⟩
  | k + 1, i, out, o, a, hn, he => by
    rw [rowP] at he ⊢
    split at he
    · rename_i hq
      rw [if_pos hq]
      obtain ⟨o1, a1, he1, he2⟩ := also_ok he
      obtain ⟨hg, hn1⟩ := h.1 _ _ _ he1
      rw [hg]
      exact rowP_rel1 h wd op hop k _ _ _ _ ((hn.app hn1).app (NoTime.one hop)) he2
    · rename_i hq
      rw [if_neg hq]
      obtain ⟨rfl, rfl⟩ := ok_inj he
      exact ⟨rfl, hn⟩
theorem rowP_pre {T : List Tk} {g : Int → PR} (wd : ByteArray) (op : Int) : ∀ (k : Nat) (i : Int) (out o : List It) (a : Int), rowP T g wd op k i out = .ok o a → ∃ r, o = out ++ r
  | 0, i, out, o, a, he => by
    obtain ⟨rfl, rfl⟩ := ok_inj he
    exact ⟨[], by simp⟩
  | k + 1, i, out, o, a, he => by
    rw [rowP] at he
    split at he
    · obtain ⟨o1, a1, he1, he2⟩ := also_ok he
      obtain ⟨r, hr⟩ := rowP_pre wd op k _ _ _ _ he2
      exact ⟨_, by rw [hr, List.append_assoc, List.append_assoc]⟩
    · obtain ⟨rfl, rfl⟩ := ok_inj he
      exact ⟨[], by simp⟩
theorem rowP_rel2 {T : List Tk} {f g : Int → PR} (h : Rel f g) (wd : ByteArray) (op : Int) : ∀ (k : Nat) (i : Int) (out o : List It) (a : Int), rowP T g wd op k i out = .ok o a → NoTime o → rowP T f wd op k i out = .ok o a
  | 0, i, out, o, a, he, hn => by
    obtain ⟨rfl, rfl⟩ := ok_inj he
    rfl
  | k + 1, i, out, o, a, he, hn => by
    rw [rowP] at he ⊢
    split at he
    · rename_i hq
      rw [if_pos hq]
      obtain ⟨o1, a1, he1, he2⟩ := also_ok he
      obtain ⟨r, hr⟩ := rowP_pre wd op k _ _ _ _ he2
      have hn1 : NoTime o1 := by rw [hr] at hn; exact hn.left.left.right
      rw [h.2 _ _ _ he1 hn1]
      exact rowP_rel2 h wd op k _ _ _ _ he2 hn
    · rename_i hq
      rw [if_neg hq]
      obtain ⟨rfl, rfl⟩ := ok_inj he
      rfl
theorem rowsP_rel {T : List Tk} {f g : Int → PR} (h : Rel f g) (wd : ByteArray) (op : Int) (hop : timeB op = false) : Rel (rowsP T f wd op) (rowsP T g wd op) := by
  refine ⟨fun i o a he => ?_, fun i o a he hn => ?_⟩
  · obtain ⟨o1, a1, he1, he2⟩ := also_ok he
    obtain ⟨hg, hn1⟩ := h.1 _ _ _ he1
    unfold rowsP
    rw [hg]
    exact rowP_rel1 h wd op hop _ _ _ _ _ hn1 he2
  · obtain ⟨o1, a1, he1, he2⟩ := also_ok he
    obtain ⟨r, hr⟩ := rowP_pre wd op _ _ _ _ _ he2
    have hn1 : NoTime o1 := by rw [hr] at hn; exact hn.left
    unfold rowsP
    rw [h.2 _ _ _ he1 hn1]
    exact rowP_rel2 h wd op _ _ _ _ _ he2 hn

theorem comp_range (T : List Tk) (i : Int) : compN T i = 0 ∨ (3 ≤ compN T i ∧ compN T i ≤ 8) := by
  unfold compN
  repeat' split
  all_goals omega
theorem timeB_low {op : Int} (h : op ≤ 10) : timeB op = false := by
  unfold timeB
  have h1 : ¬ 11 ≤ op := by omega
  have h2 : ¬ 19 ≤ op := by omega
  simp [h1, h2]
theorem compP_notime (T : List Tk) (i : Int) (o : List It) (a : Int) (h : compP T i = .ok o a) : NoTime o := by
  unfold compP at h
  split at h
  · split at h
    · cases h
    · split at h
      · obtain ⟨rfl, rfl⟩ := ok_inj h
        exact NoTime.one (timeB_low (by have := comp_range T (i + 1); dsimp only; omega))
      · cases h
  · cases h
theorem namedP_op (T : List Tk) (i op : Int) (o : List It) (a : Int) (h : namedP T i op = .ok o a) : ∃ x, o = [x] ∧ x.op = op := by
  unfold namedP at h
  split at h
  · obtain ⟨rfl, rfl⟩ := ok_inj h; exact ⟨_, rfl, rfl⟩
  · cases h
theorem didP_op (T : List Tk) (i : Int) (o : List It) (a : Int) (h : didP T i = .ok o a) : ∃ x, o = [x] ∧ x.op = 12 := by
  unfold didP at h
  split at h
  · split at h
    · obtain ⟨rfl, rfl⟩ := ok_inj h; exact ⟨_, rfl, rfl⟩
    · cases h
  · cases h
theorem time_no {x : It} {op : Int} (hn : NoTime [x]) (h : x.op = op) (ht : timeB op = true) : False := by
  have := hn.head; rw [h, ht] at this; cases this
theorem atomP_rel (T : List Tk) : Rel (atomP T false) (atomP T true) := by
  refine ⟨fun i o a h => ?_, fun i o a h hn => ?_⟩
  · unfold atomP at h ⊢
    split at h
    · rename_i q; rw [if_pos q]
      obtain ⟨x, rfl, hx⟩ := namedP_op _ _ _ _ _ h
      exact ⟨h, NoTime.one (by rw [hx]; rfl)⟩
    rename_i q; rw [if_neg q]
    split at h
    · rename_i q; rw [if_pos q]
      obtain ⟨x, rfl, hx⟩ := namedP_op _ _ _ _ _ h
      exact ⟨h, NoTime.one (by rw [hx]; rfl)⟩
    rename_i q; rw [if_neg q]
    split at h
    · rename_i q; rw [if_pos q]
      obtain ⟨rfl, rfl⟩ := ok_inj h
      exact ⟨rfl, NoTime.one rfl⟩
    rename_i q; rw [if_neg q]
    split at h
    · rename_i q; rw [if_pos q]
      obtain ⟨rfl, rfl⟩ := ok_inj h
      exact ⟨rfl, NoTime.one rfl⟩
    rw [if_pos rfl] at h
    cases h
  · unfold atomP at h ⊢
    split at h
    · rename_i q; rw [if_pos q]; exact h
    rename_i q; rw [if_neg q]
    split at h
    · rename_i q; rw [if_pos q]; exact h
    rename_i q; rw [if_neg q]
    split at h
    · rename_i q; rw [if_pos q]; exact h
    rename_i q; rw [if_neg q]
    split at h
    · rename_i q; rw [if_pos q]; exact h
    rw [if_neg (by decide)] at h
    exfalso
    split at h
    · obtain ⟨x, rfl, hx⟩ := namedP_op _ _ _ _ _ h
      exact time_no hn hx rfl
    split at h
    · obtain ⟨x, rfl, hx⟩ := didP_op _ _ _ _ h
      exact time_no hn hx rfl
    split at h
    · obtain ⟨rfl, rfl⟩ := ok_inj h
      exact time_no hn (op := 13) rfl rfl
    split at h
    · obtain ⟨rfl, rfl⟩ := ok_inj h
      exact time_no hn (op := 14) rfl rfl
    · cases h
theorem untilP_time {T : List Tk} {form : Int → PR} (op i : Int) (o : List It) (a : Int) (he : untilP T form op i = .ok o a) (hop : timeB op = true) : ¬ NoTime o := by
  unfold untilP at he
  obtain ⟨h1, he⟩ := need_ok he
  obtain ⟨o1, b, hf, he⟩ := also_ok he
  obtain ⟨h2, he⟩ := need_ok he
  obtain ⟨o2, d, hf2, he⟩ := also_ok he
  obtain ⟨h3, he⟩ := need_ok he
  obtain ⟨rfl, rfl⟩ := ok_inj he
  intro hn
  have := hn.right.head
  rw [show (item op (tkAt T i)).op = op from rfl, hop] at this
  cases this
theorem temp_range (s : ByteArray) : tempN s = 0 ∨ (19 ≤ tempN s ∧ tempN s ≤ 24) := by
  unfold tempN
  repeat' split
  all_goals omega
theorem timeB_high {op : Int} (h : 19 ≤ op) : timeB op = true := by unfold timeB; simp [h]
theorem signP_rel {T : List Tk} {s1 s2 f1 f2 : Int → PR} (hs : Rel s1 s2) (hf : Rel f1 f2) : Rel (signP T false s1 f1) (signP T true s2 f2) := by
  refine ⟨fun i o a h => ?_, fun i o a h hn => ?_⟩
  · unfold signP at h ⊢
    split at h
    · rename_i q; rw [if_pos q]
      obtain ⟨o1, b, h1, h2⟩ := also_ok h
      obtain ⟨hg, hn⟩ := hf.1 _ _ _ h1
      rw [hg]
      obtain ⟨h3, h4⟩ := need_ok h2
      obtain ⟨rfl, rfl⟩ := ok_inj h4
      exact ⟨h2, hn⟩
    rename_i q; rw [if_neg q]
    split at h
    · rename_i q; rw [if_pos q]
      exact ⟨h, compP_notime _ _ _ _ h⟩
    rename_i q; rw [if_neg q]
    split at h
    · rename_i q; rw [if_pos q]
      obtain ⟨o1, b, h1, h2⟩ := also_ok h
      obtain ⟨hg, hn⟩ := hs.1 _ _ _ h1
      rw [hg]
      obtain ⟨rfl, rfl⟩ := ok_inj h2
      exact ⟨rfl, hn.app (NoTime.one rfl)⟩
    rename_i q; rw [if_neg q]
    split at h
    · cases h
    rename_i q
    have q' : ¬ (tempN (tkAt T i).text > 0 ∨ (tkAt T i).text = wA ∨ (tkAt T i).text = wE) := fun h => q ⟨rfl, h⟩
    have ha : (tkAt T i).text ≠ wA := fun h => q' (.inr (.inl h))
    have hb : (tkAt T i).text ≠ wE := fun h => q' (.inr (.inr h))
    have h0 : tempN (tkAt T i).text = 0 := by have := temp_range (tkAt T i).text; have h9 : ¬ tempN (tkAt T i).text > 0 := fun h => q' (.inl h); omega
    rw [if_neg ha, if_neg hb, if_pos h0] at h
    rw [if_neg (fun h => by cases h.1), if_neg ha, if_neg hb, if_pos h0]
    exact (atomP_rel T).1 _ _ _ h
  · unfold signP at h ⊢
    split at h
    · rename_i q; rw [if_pos q]
      obtain ⟨o1, b, h1, h2⟩ := also_ok h
      obtain ⟨h3, h4⟩ := need_ok h2
      obtain ⟨rfl, rfl⟩ := ok_inj h4
      rw [hf.2 _ _ _ h1 hn]
      exact h2
    rename_i q; rw [if_neg q]
    split at h
    · rename_i q; rw [if_pos q]; exact h
    rename_i q; rw [if_neg q]
    split at h
    · rename_i q; rw [if_pos q]
      obtain ⟨o1, b, h1, h2⟩ := also_ok h
      obtain ⟨rfl, rfl⟩ := ok_inj h2
      rw [hs.2 _ _ _ h1 hn.left]
      rfl
    rename_i q; rw [if_neg q]
    rw [if_neg (fun h => by cases h.1)] at h
    by_cases ha : (tkAt T i).text = wA
    · rw [if_pos ha] at h; exact absurd hn (untilP_time _ _ _ _ h rfl)
    rw [if_neg ha] at h
    by_cases hb : (tkAt T i).text = wE
    · rw [if_pos hb] at h; exact absurd hn (untilP_time _ _ _ _ h rfl)
    rw [if_neg hb] at h
    by_cases h0 : tempN (tkAt T i).text = 0
    · rw [if_pos h0] at h
      have hq : ¬ (false = false ∧ (tempN (tkAt T i).text > 0 ∨ (tkAt T i).text = wA ∨ (tkAt T i).text = wE)) := by
        rintro ⟨_, h | h | h⟩
        · omega
        · exact ha h
        · exact hb h
      rw [if_neg hq, if_neg ha, if_neg hb, if_pos h0]
      exact (atomP_rel T).2 _ _ _ h hn
    · rw [if_neg h0] at h
      obtain ⟨o1, b, h1, h2⟩ := also_ok h
      obtain ⟨rfl, rfl⟩ := ok_inj h2
      have := hn.right.head
      rw [show (item (tempN (tkAt T i).text) (tkAt T i)).op = tempN (tkAt T i).text from rfl, timeB_high (by have := temp_range (tkAt T i).text; omega)] at this
      cases this
theorem formP_rel {T : List Tk} {s1 s2 f1 f2 : Int → PR} (hs : Rel s1 s2) (hf : Rel f1 f2) : Rel (formP T s1 f1) (formP T s2 f2) := by
  have hr := rowsP_rel (T := T) (rowsP_rel (T := T) hs wAnd 16 rfl) wOr 17 rfl
  refine ⟨fun i o a h => ?_, fun i o a h hn => ?_⟩
  · unfold formP at h ⊢
    obtain ⟨o1, b, h1, h2⟩ := also_ok h
    obtain ⟨hg, hn⟩ := hr.1 _ _ _ h1
    rw [hg]
    show (if isTk T b 2 wImplies = true then _ else _) = _ ∧ _
    split at h2
    · rename_i q; rw [if_pos q]
      obtain ⟨o2, c, h3, h4⟩ := also_ok h2
      obtain ⟨hg2, hn2⟩ := hf.1 _ _ _ h3
      obtain ⟨rfl, rfl⟩ := ok_inj h4
      rw [hg2]
      exact ⟨rfl, (hn.app hn2).app (NoTime.one rfl)⟩
    · rename_i q; rw [if_neg q]
      obtain ⟨rfl, rfl⟩ := ok_inj h2
      exact ⟨rfl, hn⟩
  · unfold formP at h ⊢
    obtain ⟨o1, b, h1, h2⟩ := also_ok h
    split at h2
    · rename_i q
      obtain ⟨o2, c, h3, h4⟩ := also_ok h2
      obtain ⟨rfl, rfl⟩ := ok_inj h4
      rw [hr.2 _ _ _ h1 hn.left.left]
      show (if isTk T b 2 wImplies = true then _ else _) = _
      rw [if_pos q, hf.2 _ _ _ h3 hn.left.right]
      rfl
    · rename_i q
      obtain ⟨rfl, rfl⟩ := ok_inj h2
      rw [hr.2 _ _ _ h1 hn]
      show (if isTk T b 2 wImplies = true then _ else _) = _
      rw [if_neg q]
theorem both_rel (T : List Tk) : ∀ n, Rel (bothP T false n).1 (bothP T true n).1 ∧ Rel (bothP T false n).2 (bothP T true n).2
  | 0 => ⟨⟨fun i o a h => (by have h : badP T i 5 = .ok o a := h; cases h), fun i o a h _ => (by have h : badP T i 5 = .ok o a := h; cases h)⟩, ⟨fun i o a h => (by have h : badP T i 5 = .ok o a := h; cases h), fun i o a h _ => (by have h : badP T i 5 = .ok o a := h; cases h)⟩⟩
  | n + 1 => by
    have ih := both_rel T n
    have hs := signP_rel (T := T) ih.1 ih.2
    exact ⟨hs, formP_rel hs ih.2⟩

/-! ### what is read is a formula -/

/-- of how many formulas an item is put -/
def arN (op : Int) : Int := if 1 ≤ op ∧ op ≤ 14 then 0 else if op = 15 ∨ (19 ≤ op ∧ op ≤ 24) then 1 else if (16 ≤ op ∧ op ≤ 18) ∨ op = 25 ∨ op = 26 then 2 else -1
/-- how many formulas lie there, when items are put on so many -/
def putN : List It → Nat → Option Nat
  | [], n => some n
  | x :: r, n => if arN x.op = 0 then putN r (n + 1) else if arN x.op = 1 ∧ 1 ≤ n then putN r n else if arN x.op = 2 ∧ 2 ≤ n then putN r (n - 1) else none
theorem putN_app (b : List It) : ∀ (a : List It) (n m : Nat), putN a n = some m → putN (a ++ b) n = putN b m
  | [], n, m, h => by simp only [putN, Option.some.injEq] at h; subst h; rfl
  | x :: r, n, m, h => by
    rw [putN] at h
    rw [List.cons_append, putN]
    split at h
    · rename_i q; rw [if_pos q]; exact putN_app b r _ _ h
    rename_i q; rw [if_neg q]
    split at h
    · rename_i q; rw [if_pos q]; exact putN_app b r _ _ h
    rename_i q; rw [if_neg q]
    split at h
    · rename_i q; rw [if_pos q]; exact putN_app b r _ _ h
    · cases h
/-- items that are one formula more, on whatever lies there -/
def OneF (o : List It) : Prop := ∀ n, putN o n = some (n + 1)
def Forms (f : Int → PR) : Prop := ∀ i o a, f i = .ok o a → OneF o
theorem OneF.leaf {x : It} (h : arN x.op = 0) : OneF [x] := fun n => by simp [putN, h]
theorem OneF.un {o : List It} {x : It} (ho : OneF o) (h : arN x.op = 1) : OneF (o ++ [x]) := fun n => by
  rw [putN_app _ _ _ _ (ho n)]; simp [putN, h]
theorem OneF.bin {o o2 : List It} {x : It} (ho : OneF o) (ho2 : OneF o2) (h : arN x.op = 2) : OneF (o ++ o2 ++ [x]) := fun n => by
  rw [List.append_assoc, putN_app _ _ _ _ (ho n), putN_app _ _ _ _ (ho2 (n + 1))]; simp [putN, h]
theorem rowP_forms {T : List Tk} {f : Int → PR} (h : Forms f) (wd : ByteArray) (op : Int) (hop : arN op = 2) : ∀ (k : Nat) (i : Int) (out o : List It) (a : Int), OneF out → rowP T f wd op k i out = .ok o a → OneF o
  | 0, i, out, o, a, hn, he => by
    obtain ⟨rfl, rfl⟩ := ok_inj he
    exact hn
  | k + 1, i, out, o, a, hn, he => by
    rw [rowP] at he
    split at he
    · obtain ⟨o1, a1, he1, he2⟩ := also_ok he
      exact rowP_forms h wd op hop k _ _ _ _ (hn.bin (h _ _ _ he1) hop) he2
    · obtain ⟨rfl, rfl⟩ := ok_inj he
      exact hn
theorem rowsP_forms {T : List Tk} {f : Int → PR} (h : Forms f) (wd : ByteArray) (op : Int) (hop : arN op = 2) : Forms (rowsP T f wd op) := by
  intro i o a he
  obtain ⟨o1, a1, he1, he2⟩ := also_ok he
  exact rowP_forms h wd op hop _ _ _ _ _ (h _ _ _ he1) he2
theorem arN_leaf {op : Int} (h : 1 ≤ op ∧ op ≤ 14) : arN op = 0 := by unfold arN; rw [if_pos h]
theorem compP_forms (T : List Tk) : Forms (compP T) := by
  intro i o a h
  unfold compP at h
  split at h
  · split at h
    · cases h
    · split at h
      · obtain ⟨rfl, rfl⟩ := ok_inj h
        exact OneF.leaf (arN_leaf (by have := comp_range T (i + 1); dsimp only; omega))
      · cases h
  · cases h
theorem atomP_forms (T : List Tk) (prop : Bool) : Forms (atomP T prop) := by
  intro i o a h
  unfold atomP at h
  split at h
  · obtain ⟨x, rfl, hx⟩ := namedP_op _ _ _ _ _ h; exact OneF.leaf (by rw [hx]; rfl)
  split at h
  · obtain ⟨x, rfl, hx⟩ := namedP_op _ _ _ _ _ h; exact OneF.leaf (by rw [hx]; rfl)
  split at h
  · obtain ⟨rfl, rfl⟩ := ok_inj h; exact OneF.leaf rfl
  split at h
  · obtain ⟨rfl, rfl⟩ := ok_inj h; exact OneF.leaf rfl
  split at h
  · cases h
  split at h
  · obtain ⟨x, rfl, hx⟩ := namedP_op _ _ _ _ _ h; exact OneF.leaf (by rw [hx]; rfl)
  split at h
  · obtain ⟨x, rfl, hx⟩ := didP_op _ _ _ _ h; exact OneF.leaf (by rw [hx]; rfl)
  split at h
  · obtain ⟨rfl, rfl⟩ := ok_inj h; exact OneF.leaf rfl
  split at h
  · obtain ⟨rfl, rfl⟩ := ok_inj h; exact OneF.leaf rfl
  · cases h
theorem untilP_forms {T : List Tk} {form : Int → PR} (hf : Forms form) (op : Int) (hop : arN op = 2) : Forms (untilP T form op) := by
  intro i o a he
  unfold untilP at he
  obtain ⟨h1, he⟩ := need_ok he
  obtain ⟨o1, b, hf1, he⟩ := also_ok he
  obtain ⟨h2, he⟩ := need_ok he
  obtain ⟨o2, d, hf2, he⟩ := also_ok he
  obtain ⟨h3, he⟩ := need_ok he
  obtain ⟨rfl, rfl⟩ := ok_inj he
  exact (hf _ _ _ hf1).bin (hf _ _ _ hf2) hop
theorem arN_temp {op : Int} (h : 19 ≤ op ∧ op ≤ 24) : arN op = 1 := by unfold arN; rw [if_neg (by omega), if_pos (.inr h)]
theorem signP_forms {T : List Tk} {prop : Bool} {sg form : Int → PR} (hs : Forms sg) (hf : Forms form) : Forms (signP T prop sg form) := by
  intro i o a h
  unfold signP at h
  split at h
  · obtain ⟨o1, b, h1, h2⟩ := also_ok h
    obtain ⟨h3, h4⟩ := need_ok h2
    obtain ⟨rfl, rfl⟩ := ok_inj h4
    exact hf _ _ _ h1
  split at h
  · exact compP_forms T _ _ _ h
  split at h
  · obtain ⟨o1, b, h1, h2⟩ := also_ok h
    obtain ⟨rfl, rfl⟩ := ok_inj h2
    exact (hs _ _ _ h1).un rfl
  split at h
  · cases h
  split at h
  · exact untilP_forms hf 25 rfl _ _ _ h
  split at h
  · exact untilP_forms hf 26 rfl _ _ _ h
  split at h
  · exact atomP_forms T prop _ _ _ h
  · rename_i q
    obtain ⟨o1, b, h1, h2⟩ := also_ok h
    obtain ⟨rfl, rfl⟩ := ok_inj h2
    exact (hs _ _ _ h1).un (arN_temp (by have := temp_range (tkAt T i).text; show 19 ≤ tempN (tkAt T i).text ∧ tempN (tkAt T i).text ≤ 24; omega))
theorem formP_forms {T : List Tk} {sg form : Int → PR} (hs : Forms sg) (hf : Forms form) : Forms (formP T sg form) := by
  intro i o a h
  unfold formP at h
  obtain ⟨o1, b, h1, h2⟩ := also_ok h
  have g1 := rowsP_forms (T := T) (rowsP_forms (T := T) hs wAnd 16 rfl) wOr 17 rfl _ _ _ h1
  split at h2
  · obtain ⟨o2, c, h3, h4⟩ := also_ok h2
    obtain ⟨rfl, rfl⟩ := ok_inj h4
    exact g1.bin (hf _ _ _ h3) rfl
  · obtain ⟨rfl, rfl⟩ := ok_inj h2
    exact g1
theorem both_forms (T : List Tk) (prop : Bool) : ∀ n, Forms (bothP T prop n).1 ∧ Forms (bothP T prop n).2
  | 0 => ⟨fun i o a h => (by have h : badP T i 5 = .ok o a := h; cases h), fun i o a h => (by have h : badP T i 5 = .ok o a := h; cases h)⟩
  | n + 1 => by
    have ih := both_forms T prop n
    have hs := signP_forms (T := T) (prop := prop) ih.1 ih.2
    exact ⟨hs, formP_forms hs ih.2⟩

end Go.Proofs.YthhjepgcbfmfeaaGreatDoor
