/- Plain: a condition is the same as a property, and a property with signs of time is no condition; what is read is a formula. Contracts of tree.Arity, push, built and Check, for lists that are one formula. -/
import Derived.Test.YtignjhbajjephaaDoorCt07
import Derived.Test.YtignjhbajjephaaDoorCt02
import Derived.Test.YtignjhbajjephaaDoorCt04
import Derived.Deep.DeepCutAuto

namespace Go.Proofs.YtignjhbajjephaaDoor
open Go.RowKit

/-- an item of time -/
def timeB (op : Int) : Bool := (decide (11 ≤ op) && decide (op ≤ 14)) || decide (19 ≤ op)
def NoTime (o : List It) : Prop := ∀ x ∈ o, timeB x.op = false
theorem NoTime.nil : NoTime [] := fun _ h => by cases h
theorem NoTime.app {a b : List It} (ha : NoTime a) (hb : NoTime b) : NoTime (a ++ b) := fun x hx => (List.mem_append.1 hx).elim (ha x) (hb x)
theorem NoTime.one {x : It} (h : timeB x.op = false) : NoTime [x] := fun y hy => by rw [List.mem_singleton.1 hy]; exact h
theorem NoTime.left {a b : List It} (h : NoTime (a ++ b)) : NoTime a := fun x hx => h x (List.mem_append_left _ hx)
theorem NoTime.right {a b : List It} (h : NoTime (a ++ b)) : NoTime b := fun x hx => h x (List.mem_append_right _ hx)
theorem NoTime.head {x : It} (h : NoTime [x]) : timeB x.op = false := h x (List.mem_singleton_self _)

/-- f reads what g reads where that is without time -/
def Rel (f g : Int → PR) : Prop := (∀ i o a, f i = .ok o a → g i = .ok o a ∧ NoTime o) ∧ (∀ i o a, g i = .ok o a → NoTime o → f i = .ok o a)

theorem ok_inj {o o' : List It} {a a' : Int} (h : PR.ok o a = .ok o' a') : o = o' ∧ a = a' := by simpa using h

theorem rowP_rel1 {T : List Tk} {f g : Int → PR} (h : Rel f g) (wd : ByteArray) (op : Int) (hop : timeB op = false) : ∀ (k : Nat) (i : Int) (out o : List It) (a : Int), NoTime out → rowP T f wd op k i out = .ok o a → rowP T g wd op k i out = .ok o a ∧ NoTime o
  | 0, i, out, o, a, hn, he => by
    obtain ⟨rfl, rfl⟩ := ok_inj he
    exact ⟨rfl, hn⟩
  | k + 1, i, out, o, a, hn, he => by
    rw [rowP] at he ⊢
    split at he
    · rename_i hq
      rw [if_pos hq]
      obtain ⟨o1, a1, he1, he2⟩ := also_ok he
      obtain ⟨hg, hn1⟩ := h.1 _ _ _ he1
      rw [hg]
      exact rowP_rel1 h wd op hop k _ _ _ _ ((hn.app hn1).app (NoTime.one hop)) he2
    · rename_i hq
      rw [if_neg hq]
      obtain ⟨rfl, rfl⟩ := ok_inj he
      exact ⟨rfl, hn⟩
theorem rowP_pre {T : List Tk} {g : Int → PR} (wd : ByteArray) (op : Int) : ∀ (k : Nat) (i : Int) (out o : List It) (a : Int), rowP T g wd op k i out = .ok o a → ∃ r, o = out ++ r
  | 0, i, out, o, a, he => by
    obtain ⟨rfl, rfl⟩ := ok_inj he
    exact ⟨[], by simp⟩
  | k + 1, i, out, o, a, he => by
    rw [rowP] at he
    split at he
    · obtain ⟨o1, a1, he1, he2⟩ := also_ok he
      obtain ⟨r, hr⟩ := rowP_pre wd op k _ _ _ _ he2
      exact ⟨_, by rw [hr, List.append_assoc, List.append_assoc]⟩
    · obtain ⟨rfl, rfl⟩ := ok_inj he
      exact ⟨[], by simp⟩
theorem rowP_rel2 {T : List Tk} {f g : Int → PR} (h : Rel f g) (wd : ByteArray) (op : Int) : ∀ (k : Nat) (i : Int) (out o : List It) (a : Int), rowP T g wd op k i out = .ok o a → NoTime o → rowP T f wd op k i out = .ok o a
  | 0, i, out, o, a, he, hn => by
    obtain ⟨rfl, rfl⟩ := ok_inj he
    rfl
  | k + 1, i, out, o, a, he, hn => by
    rw [rowP] at he ⊢
    split at he
    · rename_i hq
      rw [if_pos hq]
      obtain ⟨o1, a1, he1, he2⟩ := also_ok he
      obtain ⟨r, hr⟩ := rowP_pre wd op k _ _ _ _ he2
      have hn1 : NoTime o1 := by rw [hr] at hn; exact hn.left.left.right
      rw [h.2 _ _ _ he1 hn1]
      exact rowP_rel2 h wd op k _ _ _ _ he2 hn
    · rename_i hq
      rw [if_neg hq]
      obtain ⟨rfl, rfl⟩ := ok_inj he
      rfl
theorem rowsP_rel {T : List Tk} {f g : Int → PR} (h : Rel f g) (wd : ByteArray) (op : Int) (hop : timeB op = false) : Rel (rowsP T f wd op) (rowsP T g wd op) := by
  refine ⟨fun i o a he => ?_, fun i o a he hn => ?_⟩
  · obtain ⟨o1, a1, he1, he2⟩ := also_ok he
    obtain ⟨hg, hn1⟩ := h.1 _ _ _ he1
    unfold rowsP
    rw [hg]
    exact rowP_rel1 h wd op hop _ _ _ _ _ hn1 he2
  · obtain ⟨o1, a1, he1, he2⟩ := also_ok he
    obtain ⟨r, hr⟩ := rowP_pre wd op _ _ _ _ _ he2
    have hn1 : NoTime o1 := by rw [hr] at hn; exact hn.left
    unfold rowsP
    rw [h.2 _ _ _ he1 hn1]
    exact rowP_rel2 h wd op _ _ _ _ _ he2 hn

theorem comp_range (T : List Tk) (i : Int) : compN T i = 0 ∨ (3 ≤ compN T i ∧ compN T i ≤ 8) := by
  unfold compN
  repeat' split
  all_goals omega
theorem timeB_low {op : Int} (h : op ≤ 10) : timeB op = false := by
  unfold timeB
  have h1 : ¬ 11 ≤ op := by omega
  have h2 : ¬ 19 ≤ op := by omega
  simp [h1, h2]
theorem compP_notime (T : List Tk) (i : Int) (o : List It) (a : Int) (h : compP T i = .ok o a) : NoTime o := by
  unfold compP at h
  split at h
  · split at h
    · cases h
    · split at h
      · obtain ⟨rfl, rfl⟩ := ok_inj h
        exact NoTime.one (timeB_low (by have := comp_range T (i + 1); dsimp only; omega))
      · cases h
  · cases h
theorem namedP_op (T : List Tk) (i op : Int) (o : List It) (a : Int) (h : namedP T i op = .ok o a) : ∃ x, o = [x] ∧ x.op = op := by
  unfold namedP at h
  split at h
  · obtain ⟨rfl, rfl⟩ := ok_inj h; exact ⟨_, rfl, rfl⟩
  · cases h
theorem didP_op (T : List Tk) (i : Int) (o : List It) (a : Int) (h : didP T i = .ok o a) : ∃ x, o = [x] ∧ x.op = 12 := by
  unfold didP at h
  split at h
  · split at h
    · obtain ⟨rfl, rfl⟩ := ok_inj h; exact ⟨_, rfl, rfl⟩
    · cases h
  · cases h
theorem time_no {x : It} {op : Int} (hn : NoTime [x]) (h : x.op = op) (ht : timeB op = true) : False := by
  have := hn.head; rw [h, ht] at this; cases this
theorem atomP_rel (T : List Tk) : Rel (atomP T false) (atomP T true) := by
  refine ⟨fun i o a h => ?_, fun i o a h hn => ?_⟩
  · unfold atomP at h ⊢
    split at h
    · rename_i q; rw [if_pos q]
      obtain ⟨x, rfl, hx⟩ := namedP_op _ _ _ _ _ h
      exact ⟨h, NoTime.one (by rw [hx]; rfl)⟩
    rename_i q; rw [if_neg q]
    split at h
    · rename_i q; rw [if_pos q]
      obtain ⟨x, rfl, hx⟩ := namedP_op _ _ _ _ _ h
      exact ⟨h, NoTime.one (by rw [hx]; rfl)⟩
    rename_i q; rw [if_neg q]
    split at h
    · rename_i q; rw [if_pos q]
      obtain ⟨rfl, rfl⟩ := ok_inj h
      exact ⟨rfl, NoTime.one rfl⟩
    rename_i q; rw [if_neg q]
    split at h
    · rename_i q; rw [if_pos q]
      obtain ⟨rfl, rfl⟩ := ok_inj h
      exact ⟨rfl, NoTime.one rfl⟩
    rw [if_pos rfl] at h
    cases h
  · unfold atomP at h ⊢
    split at h
    · rename_i q; rw [if_pos q]; exact h
    rename_i q; rw [if_neg q]
    split at h
    · rename_i q; rw [if_pos q]; exact h
    rename_i q; rw [if_neg q]
    split at h
    · rename_i q; rw [if_pos q]; exact h
    rename_i q; rw [if_neg q]
    split at h
    · rename_i q; rw [if_pos q]; exact h
    rw [if_neg (by decide)] at h
    exfalso
    split at h
    · obtain ⟨x, rfl, hx⟩ := namedP_op _ _ _ _ _ h
      exact time_no hn hx rfl
    split at h
    · obtain ⟨x, rfl, hx⟩ := didP_op _ _ _ _ h
      exact time_no hn hx rfl
    split at h
    · obtain ⟨rfl, rfl⟩ := ok_inj h
      exact time_no hn (op := 13) rfl rfl
    split at h
    · obtain ⟨rfl, rfl⟩ := ok_inj h
      exact time_no hn (op := 14) rfl rfl
    · cases h
theorem untilP_time {T : List Tk} {form : Int → PR} (op i : Int) (o : List It) (a : Int) (he : untilP T form op i = .ok o a) (hop : timeB op = true) : ¬ NoTime o := by
  unfold untilP at he
  obtain ⟨h1, he⟩ := need_ok he
  obtain ⟨o1, b, hf, he⟩ := also_ok he
  obtain ⟨h2, he⟩ := need_ok he
  obtain ⟨o2, d, hf2, he⟩ := also_ok he
  obtain ⟨h3, he⟩ := need_ok he
  obtain ⟨rfl, rfl⟩ := ok_inj he
  intro hn
  have := hn.right.head
  rw [show (item op (tkAt T i)).op = op from rfl, hop] at this
  cases this
theorem temp_range (s : ByteArray) : tempN s = 0 ∨ (19 ≤ tempN s ∧ tempN s ≤ 24) := by
  unfold tempN
  repeat' split
  all_goals omega
theorem timeB_high {op : Int} (h : 19 ≤ op) : timeB op = true := by unfold timeB; simp [h]
theorem signP_rel {T : List Tk} {s1 s2 f1 f2 : Int → PR} (hs : Rel s1 s2) (hf : Rel f1 f2) : Rel (signP T false s1 f1) (signP T true s2 f2) := by
  refine ⟨fun i o a h => ?_, fun i o a h hn => ?_⟩
  · unfold signP at h ⊢
    split at h
    · rename_i q; rw [if_pos q]
      obtain ⟨o1, b, h1, h2⟩ := also_ok h
      obtain ⟨hg, hn⟩ := hf.1 _ _ _ h1
      rw [hg]
      obtain ⟨h3, h4⟩ := need_ok h2
      obtain ⟨rfl, rfl⟩ := ok_inj h4
      exact ⟨h2, hn⟩
    rename_i q; rw [if_neg q]
    split at h
    · rename_i q; rw [if_pos q]
      exact ⟨h, compP_notime _ _ _ _ h⟩
    rename_i q; rw [if_neg q]
    split at h
    · rename_i q; rw [if_pos q]
      obtain ⟨o1, b, h1, h2⟩ := also_ok h
      obtain ⟨hg, hn⟩ := hs.1 _ _ _ h1
      rw [hg]
      obtain ⟨rfl, rfl⟩ := ok_inj h2
      exact ⟨rfl, hn.app (NoTime.one rfl)⟩
    rename_i q; rw [if_neg q]
    split at h
    · cases h
    rename_i q
    have q' : ¬ (tempN (tkAt T i).text > 0 ∨ (tkAt T i).text = wA ∨ (tkAt T i).text = wE) := fun h => q ⟨rfl, h⟩
    have ha : (tkAt T i).text ≠ wA := fun h => q' (.inr (.inl h))
    have hb : (tkAt T i).text ≠ wE := fun h => q' (.inr (.inr h))
    have h0 : tempN (tkAt T i).text = 0 := by have := temp_range (tkAt T i).text; have h9 : ¬ tempN (tkAt T i).text > 0 := fun h => q' (.inl h); omega
    rw [if_neg ha, if_neg hb, if_pos h0] at h
    rw [if_neg (fun h => by cases h.1), if_neg ha, if_neg hb, if_pos h0]
    exact (atomP_rel T).1 _ _ _ h
  · unfold signP at h ⊢
    split at h
    · rename_i q; rw [if_pos q]
      obtain ⟨o1, b, h1, h2⟩ := also_ok h
      obtain ⟨h3, h4⟩ := need_ok h2
      obtain ⟨rfl, rfl⟩ := ok_inj h4
      rw [hf.2 _ _ _ h1 hn]
      exact h2
    rename_i q; rw [if_neg q]
    split at h
    · rename_i q; rw [if_pos q]; exact h
    rename_i q; rw [if_neg q]
    split at h
    · rename_i q; rw [if_pos q]
      obtain ⟨o1, b, h1, h2⟩ := also_ok h
      obtain ⟨rfl, rfl⟩ := ok_inj h2
      rw [hs.2 _ _ _ h1 hn.left]
      rfl
    rename_i q; rw [if_neg q]
    rw [if_neg (fun h => by cases h.1)] at h
    by_cases ha : (tkAt T i).text = wA
    · rw [if_pos ha] at h; exact absurd hn (untilP_time _ _ _ _ h rfl)
    rw [if_neg ha] at h
    by_cases hb : (tkAt T i).text = wE
    · rw [if_pos hb] at h; exact absurd hn (untilP_time _ _ _ _ h rfl)
    rw [if_neg hb] at h
    by_cases h0 : tempN (tkAt T i).text = 0
    · rw [if_pos h0] at h
      have hq : ¬ (false = false ∧ (tempN (tkAt T i).text > 0 ∨ (tkAt T i).text = wA ∨ (tkAt T i).text = wE)) := by
        rintro ⟨_, h | h | h⟩
        · omega
        · exact ha h
        · exact hb h
      rw [if_neg hq, if_neg ha, if_neg hb, if_pos h0]
      exact (atomP_rel T).2 _ _ _ h hn
    · rw [if_neg h0] at h
      obtain ⟨o1, b, h1, h2⟩ := also_ok h
      obtain ⟨rfl, rfl⟩ := ok_inj h2
      have := hn.right.head
      rw [show (item (tempN (tkAt T i).text) (tkAt T i)).op = tempN (tkAt T i).text from rfl, timeB_high (by have := temp_range (tkAt T i).text; omega)] at this
      cases this
theorem formP_rel {T : List Tk} {s1 s2 f1 f2 : Int → PR} (hs : Rel s1 s2) (hf : Rel f1 f2) : Rel (formP T s1 f1) (formP T s2 f2) := by
  have hr := rowsP_rel (T := T) (rowsP_rel (T := T) hs wAnd 16 rfl) wOr 17 rfl
  refine ⟨fun i o a h => ?_, fun i o a h hn => ?_⟩
  · unfold formP at h ⊢
    obtain ⟨o1, b, h1, h2⟩ := also_ok h
    obtain ⟨hg, hn⟩ := hr.1 _ _ _ h1
    rw [hg]
    show (if isTk T b 2 wImplies = true then _ else _) = _ ∧ _
    split at h2
    · rename_i q; rw [if_pos q]
      obtain ⟨o2, c, h3, h4⟩ := also_ok h2
      obtain ⟨hg2, hn2⟩ := hf.1 _ _ _ h3
      obtain ⟨rfl, rfl⟩ := ok_inj h4
      rw [hg2]
      exact ⟨rfl, (hn.app hn2).app (NoTime.one rfl)⟩
    · rename_i q; rw [if_neg q]
      obtain ⟨rfl, rfl⟩ := ok_inj h2
      exact ⟨rfl, hn⟩
  · unfold formP at h ⊢
    obtain ⟨o1, b, h1, h2⟩ := also_ok h
    split at h2
    · rename_i q
      obtain ⟨o2, c, h3, h4⟩ := also_ok h2
      obtain ⟨rfl, rfl⟩ := ok_inj h4
      rw [hr.2 _ _ _ h1 hn.left.left]
      show (if isTk T b 2 wImplies = true then _ else _) = _
      rw [if_pos q, hf.2 _ _ _ h3 hn.left.right]
      rfl
    · rename_i q
      obtain ⟨rfl, rfl⟩ := ok_inj h2
      rw [hr.2 _ _ _ h1 hn]
      show (if isTk T b 2 wImplies = true then _ else _) = _
      rw [if_neg q]
theorem both_rel (T : List Tk) : ∀ n, Rel (bothP T false n).1 (bothP T true n).1 ∧ Rel (bothP T false n).2 (bothP T true n).2
  | 0 => ⟨⟨fun i o a h => (by have h : badP T i 5 = .ok o a := h; cases h), fun i o a h _ => (by have h : badP T i 5 = .ok o a := h; cases h)⟩, ⟨fun i o a h => (by have h : badP T i 5 = .ok o a := h; cases h), fun i o a h _ => (by have h : badP T i 5 = .ok o a := h; cases h)⟩⟩
  | n + 1 => by
    have ih := both_rel T n
    have hs := signP_rel (T := T) ih.1 ih.2
    exact ⟨hs, formP_rel hs ih.2⟩

/-! ### what is read is a formula -/

/-- of how many formulas an item is put -/
def arN (op : Int) : Int := if 1 ≤ op ∧ op ≤ 14 then 0 else if op = 15 ∨ (19 ≤ op ∧ op ≤ 24) then 1 else if (16 ≤ op ∧ op ≤ 18) ∨ op = 25 ∨ op = 26 then 2 else -1
/-- how many formulas lie there, when items are put on so many -/
def putN : List It → Nat → Option Nat
  | [], n => some n
  | x :: r, n => if arN x.op = 0 then putN r (n + 1) else if arN x.op = 1 ∧ 1 ≤ n then putN r n else if arN x.op = 2 ∧ 2 ≤ n then putN r (n - 1) else none
theorem putN_app (b : List It) : ∀ (a : List It) (n m : Nat), putN a n = some m → putN (a ++ b) n = putN b m
  | [], n, m, h => by simp only [putN, Option.some.injEq] at h; subst h; rfl
  | x :: r, n, m, h => by
    rw [putN] at h
    rw [List.cons_append, putN]
    split at h
    · rename_i q; rw [if_pos q]; exact putN_app b r _ _ h
    rename_i q; rw [if_neg q]
    split at h
    · rename_i q; rw [if_pos q]; exact putN_app b r _ _ h
    rename_i q; rw [if_neg q]
    split at h
    · rename_i q; rw [if_pos q]; exact putN_app b r _ _ h
    · cases h
/-- items that are one formula more, on whatever lies there -/
def OneF (o : List It) : Prop := ∀ n, putN o n = some (n + 1)
def Forms (f : Int → PR) : Prop := ∀ i o a, f i = .ok o a → OneF o
theorem OneF.leaf {x : It} (h : arN x.op = 0) : OneF [x] := fun n => by simp [putN, h]
theorem OneF.un {o : List It} {x : It} (ho : OneF o) (h : arN x.op = 1) : OneF (o ++ [x]) := fun n => by
  rw [putN_app _ _ _ _ (ho n)]; simp [putN, h]
theorem OneF.bin {o o2 : List It} {x : It} (ho : OneF o) (ho2 : OneF o2) (h : arN x.op = 2) : OneF (o ++ o2 ++ [x]) := fun n => by
  rw [List.append_assoc, putN_app _ _ _ _ (ho n), putN_app _ _ _ _ (ho2 (n + 1))]; simp [putN, h]
theorem rowP_forms {T : List Tk} {f : Int → PR} (h : Forms f) (wd : ByteArray) (op : Int) (hop : arN op = 2) : ∀ (k : Nat) (i : Int) (out o : List It) (a : Int), OneF out → rowP T f wd op k i out = .ok o a → OneF o
  | 0, i, out, o, a, hn, he => by
    obtain ⟨rfl, rfl⟩ := ok_inj he
    exact hn
  | k + 1, i, out, o, a, hn, he => by
    rw [rowP] at he
    split at he
    · obtain ⟨o1, a1, he1, he2⟩ := also_ok he
      exact rowP_forms h wd op hop k _ _ _ _ (hn.bin (h _ _ _ he1) hop) he2
    · obtain ⟨rfl, rfl⟩ := ok_inj he
      exact hn
theorem rowsP_forms {T : List Tk} {f : Int → PR} (h : Forms f) (wd : ByteArray) (op : Int) (hop : arN op = 2) : Forms (rowsP T f wd op) := by
  intro i o a he
  obtain ⟨o1, a1, he1, he2⟩ := also_ok he
  exact rowP_forms h wd op hop _ _ _ _ _ (h _ _ _ he1) he2
theorem arN_leaf {op : Int} (h : 1 ≤ op ∧ op ≤ 14) : arN op = 0 := by unfold arN; rw [if_pos h]
theorem compP_forms (T : List Tk) : Forms (compP T) := by
  intro i o a h
  unfold compP at h
  split at h
  · split at h
    · cases h
    · split at h
      · obtain ⟨rfl, rfl⟩ := ok_inj h
        exact OneF.leaf (arN_leaf (by have := comp_range T (i + 1); dsimp only; omega))
      · cases h
  · cases h
theorem atomP_forms (T : List Tk) (prop : Bool) : Forms (atomP T prop) := by
  intro i o a h
  unfold atomP at h
  split at h
  · obtain ⟨x, rfl, hx⟩ := namedP_op _ _ _ _ _ h; exact OneF.leaf (by rw [hx]; rfl)
  split at h
  · obtain ⟨x, rfl, hx⟩ := namedP_op _ _ _ _ _ h; exact OneF.leaf (by rw [hx]; rfl)
  split at h
  · obtain ⟨rfl, rfl⟩ := ok_inj h; exact OneF.leaf rfl
  split at h
  · obtain ⟨rfl, rfl⟩ := ok_inj h; exact OneF.leaf rfl
  split at h
  · cases h
  split at h
  · obtain ⟨x, rfl, hx⟩ := namedP_op _ _ _ _ _ h; exact OneF.leaf (by rw [hx]; rfl)
  split at h
  · obtain ⟨x, rfl, hx⟩ := didP_op _ _ _ _ h; exact OneF.leaf (by rw [hx]; rfl)
  split at h
  · obtain ⟨rfl, rfl⟩ := ok_inj h; exact OneF.leaf rfl
  split at h
  · obtain ⟨rfl, rfl⟩ := ok_inj h; exact OneF.leaf rfl
  · cases h
theorem untilP_forms {T : List Tk} {form : Int → PR} (hf : Forms form) (op : Int) (hop : arN op = 2) : Forms (untilP T form op) := by
  intro i o a he
  unfold untilP at he
  obtain ⟨h1, he⟩ := need_ok he
  obtain ⟨o1, b, hf1, he⟩ := also_ok he
  obtain ⟨h2, he⟩ := need_ok he
  obtain ⟨o2, d, hf2, he⟩ := also_ok he
  obtain ⟨h3, he⟩ := need_ok he
  obtain ⟨rfl, rfl⟩ := ok_inj he
  exact (hf _ _ _ hf1).bin (hf _ _ _ hf2) hop
theorem arN_temp {op : Int} (h : 19 ≤ op ∧ op ≤ 24) : arN op = 1 := by unfold arN; rw [if_neg (by omega), if_pos (.inr h)]
theorem signP_forms {T : List Tk} {prop : Bool} {sg form : Int → PR} (hs : Forms sg) (hf : Forms form) : Forms (signP T prop sg form) := by
  intro i o a h
  unfold signP at h
  split at h
  · obtain ⟨o1, b, h1, h2⟩ := also_ok h
    obtain ⟨h3, h4⟩ := need_ok h2
    obtain ⟨rfl, rfl⟩ := ok_inj h4
    exact hf _ _ _ h1
  split at h
  · exact compP_forms T _ _ _ h
  split at h
  · obtain ⟨o1, b, h1, h2⟩ := also_ok h
    obtain ⟨rfl, rfl⟩ := ok_inj h2
    exact (hs _ _ _ h1).un rfl
  split at h
  · cases h
  split at h
  · exact untilP_forms hf 25 rfl _ _ _ h
  split at h
  · exact untilP_forms hf 26 rfl _ _ _ h
  split at h
  · exact atomP_forms T prop _ _ _ h
  · rename_i q
    obtain ⟨o1, b, h1, h2⟩ := also_ok h
    obtain ⟨rfl, rfl⟩ := ok_inj h2
    exact (hs _ _ _ h1).un (arN_temp (by have := temp_range (tkAt T i).text; show 19 ≤ tempN (tkAt T i).text ∧ tempN (tkAt T i).text ≤ 24; omega))
theorem formP_forms {T : List Tk} {sg form : Int → PR} (hs : Forms sg) (hf : Forms form) : Forms (formP T sg form) := by
  intro i o a h
  unfold formP at h
  obtain ⟨o1, b, h1, h2⟩ := also_ok h
  have g1 := rowsP_forms (T := T) (rowsP_forms (T := T) hs wAnd 16 rfl) wOr 17 rfl _ _ _ h1
  split at h2
  · obtain ⟨o2, c, h3, h4⟩ := also_ok h2
    obtain ⟨rfl, rfl⟩ := ok_inj h4
    exact g1.bin (hf _ _ _ h3) rfl
  · obtain ⟨rfl, rfl⟩ := ok_inj h2
    exact g1
theorem both_forms (T : List Tk) (prop : Bool) : ∀ n, Forms (bothP T prop n).1 ∧ Forms (bothP T prop n).2
  | 0 => ⟨fun i o a h => (by have h : badP T i 5 = .ok o a := h; cases h), fun i o a h => (by have h : badP T i 5 = .ok o a := h; cases h)⟩
  | n + 1 => by
    have ih := both_forms T prop n
    have hs := signP_forms (T := T) (prop := prop) ih.1 ih.2
    exact ⟨hs, formP_forms hs ih.2⟩

end Go.Proofs.YtignjhbajjephaaDoor

namespace Go.Proofs.YtignjhbajjephaaDoor
open Go.RowKit

theorem ar_cases {op : Int} (h : 0 ≤ arN op) : ((1 ≤ op ∧ op ≤ 14) ∧ arN op = 0) ∨ (op = 15 ∧ arN op = 1) ∨ ((19 ≤ op ∧ op ≤ 24) ∧ arN op = 1) ∨ ((16 ≤ op ∧ op ≤ 18) ∧ arN op = 2) ∨ (op = 25 ∧ arN op = 2) ∨ (op = 26 ∧ arN op = 2) := by
  unfold arN at h ⊢
  split at h
  · rename_i q; exact .inl ⟨q, by rw [if_pos q]⟩
  rename_i q; simp only [if_neg q]
  split at h
  · rename_i q2; simp only [if_pos q2]
    rcases q2 with q2 | q2
    · exact .inr (.inl ⟨q2, trivial⟩)
    · exact .inr (.inr (.inl ⟨q2, trivial⟩))
  rename_i q2; simp only [if_neg q2]
  split at h
  · rename_i q3; simp only [if_pos q3]
    rcases q3 with q3 | q3 | q3
    · exact .inr (.inr (.inr (.inl ⟨q3, trivial⟩)))
    · exact .inr (.inr (.inr (.inr (.inl ⟨q3, trivial⟩))))
    · exact .inr (.inr (.inr (.inr (.inr ⟨q3, trivial⟩))))
  · omega

set_option maxRecDepth 100000 in
set_option maxHeartbeats 2000000 in
theorem arity_any (w : World) (op : Int) (h : 0 ≤ arN op) :
    Calls Tryd.prog 52 #[.int .i64 op] w fun e w' => e = .returned (.int .i64 (arN op)) ∧ w' = w := by
  rcases ar_cases h with ⟨q, hr⟩ | ⟨rfl, hr⟩ | ⟨q, hr⟩ | ⟨q, hr⟩ | ⟨rfl, hr⟩ | ⟨rfl, hr⟩
  · rw [hr]
    have d1 : decide (1 ≤ op) = true := decide_eq_true (by omega)
    have d2 : decide (op ≤ 14) = true := decide_eq_true (by omega)
    clear h hr q
    go_enter Tryd.func52, Tryd.ntmps52
    go_wp2
    go_ret
    exact ⟨rfl, rfl⟩
  · rw [hr]
    clear h hr
    go_enter Tryd.func52, Tryd.ntmps52
    go_wp2
    go_ret
    exact ⟨rfl, rfl⟩
  · rw [hr]
    have d1 : decide (1 ≤ op) = true := decide_eq_true (by omega)
    have d2 : decide (op ≤ 14) = false := decide_eq_false (by omega)
    have d3 : (op == 15) = false := by rw [beq_eq_false_iff_ne]; omega
    have d4 : decide (19 ≤ op) = true := decide_eq_true (by omega)
    have d5 : decide (op ≤ 24) = true := decide_eq_true (by omega)
    clear h hr q
    go_enter Tryd.func52, Tryd.ntmps52
    go_wp2
    go_ret
    exact ⟨rfl, rfl⟩
  · rw [hr]
    have d1 : decide (1 ≤ op) = true := decide_eq_true (by omega)
    have d2 : decide (op ≤ 14) = false := decide_eq_false (by omega)
    have d3 : (op == 15) = false := by rw [beq_eq_false_iff_ne]; omega
    have d4 : decide (19 ≤ op) = false := decide_eq_false (by omega)
    have d6 : decide (16 ≤ op) = true := decide_eq_true (by omega)
    have d7 : decide (op ≤ 18) = true := decide_eq_true (by omega)
    clear h hr q
    go_enter Tryd.func52, Tryd.ntmps52
    go_wp2
    go_ret
    exact ⟨rfl, rfl⟩
  · rw [hr]
    clear h hr
    go_enter Tryd.func52, Tryd.ntmps52
    go_wp2
    go_ret
    exact ⟨rfl, rfl⟩
  · rw [hr]
    clear h hr
    go_enter Tryd.func52, Tryd.ntmps52
    go_wp2
    go_ret
    exact ⟨rfl, rfl⟩

theorem info_node : (Tryd.prog.info? 59).map (fun i => (i.zero, i.size, i.bytes)) = some (some .nilIface, 1, 16) := by kernel_rfl
theorem owns_shrink1 {w : World} {base : Nat} {e : TypeId} {g n cap m : Nat} {xs : List Value} (h : w.ownsRow base e 1 (.slice (some ⟨g, 0, none⟩) n cap) n xs) (hm : m ≤ n) : w.ownsRow base e 1 (.slice (some ⟨g, 0, none⟩) m cap) m (xs.take m) := by
  rcases h.2 with ⟨h0, _⟩ | ⟨g', cap', cur, hv, hb, hg, hn, hc, hs, ht⟩
  · cases h0
  · cases hv
    exact ⟨by rw [List.length_take, h.1]; omega, .inr ⟨g, cap, cur, rfl, hb, hg, by omega, hc, hs, by rw [← ht, List.take_take, Nat.min_eq_left (by omega)]; simp⟩⟩
theorem owns_cap {w : World} {base : Nat} {e : TypeId} {g n cap sz : Nat} {xs : List Value} (h : w.ownsRow base e sz (.slice (some ⟨g, 0, none⟩) n cap) n xs) : n ≤ cap ∧ cap ≤ maxLen := by
  rcases h.2 with ⟨h0, _⟩ | ⟨g', cap', cur, hv, hb, hg, hn, hc, hs, ht⟩
  · cases h0
  · cases hv; exact ⟨hn, hc⟩

/-- formulas as values -/
def AllIf (xs : List Value) : Prop := ∀ x ∈ xs, ∃ t u, x = .iface t u
theorem AllIf.snoc {xs : List Value} (h : AllIf xs) (t : TypeId) (u : Value) : AllIf (xs ++ [.iface t u]) := fun x hx => by
  rcases List.mem_append.1 hx with hx | hx
  · exact h x hx
  · exact ⟨t, u, by simpa using hx⟩
theorem AllIf.take {xs : List Value} (h : AllIf xs) (n : Nat) : AllIf (xs.take n) := fun x hx => h x (List.mem_of_mem_take hx)
theorem AllIf.at {xs : List Value} (h : AllIf xs) {n : Nat} (hn : n < xs.length) : ∃ t u, xs[n]? = some (.iface t u) := by
  obtain ⟨t, u, e⟩ := h _ (List.getElem_mem hn)
  exact ⟨t, u, by rw [List.getElem?_eq_getElem hn, e]⟩

/-- what push leaves: a row of so many formulas that is owned -/
def Pushed (base n : Nat) (w : World) (e : Ending) (w' : World) : Prop :=
  ∃ v xs, e = .returned (.tuple #[v, .bool true]) ∧ w'.ownsRow base 59 1 v n xs ∧ AllIf xs ∧ Below base w w'

set_option maxRecDepth 100000 in
set_option maxHeartbeats 2000000 in
theorem push_leaf {w : World} {base n : Nat} {v : Value} {xs : List Value} (h : w.ownsRow base 59 1 v n xs) (hI : AllIf xs) (hB : base ≤ w.heap.size) (hn : n ≤ 64) (op at_ : Int) (hop : arN op = 0) :
    Calls Tryd.prog 33 #[v, .int .i64 op, .int .i64 at_] w (Pushed base (n + 1) w) := by
  obtain ⟨ad, cap, hv⟩ := owns_len h
  subst hv
  have HR := Lib.hid h
  have HC := Lib.hid (arity_any w op (by omega))
  have HOP := Lib.hid hop
  have HI := Lib.hid hI
  clear h hop hI
  go_enter Tryd.func33, Tryd.ntmps33
  go_wp2_with fail
  refine HC.out.mono ?_
  rw [HOP.out]
  rintro e w2 ⟨rfl, hw⟩
  rw [hw]
  clear hw
  go_wp2_with (at_builtin; refine app1 _ #[.iface 90 (.agg #[.int .i64 at_])] rfl _ _ 75 rfl base 59 .nilIface 1 16 Tryd.underlying75 info_node rfl (by decide) (by decide) _ _ _ rfl (by exact HR.out) rfl (by simp) rfl (by simp [Value.oneCell']) (by omega) hB ?_; intro v' w3 hown3 _ hbel)
  have HO := Lib.hid hown3; have HBL := Lib.hid hbel
  clear hown3 hbel
  go_wp2
  refine bodyPost_ret (v := .tuple #[v', .bool true]) (by simp [results, Tryd.results33, go_sem]) rfl ?_
  exact ⟨_, _, rfl, HO.out, HI.out.snoc _ _, HBL.out⟩

def ldP1 : Op := Op.load 59 (Operand.tmp 38)
theorem ldP1_is : Op.load 59 (Operand.tmp 38) = ldP1 := rfl
attribute [local go_sem] ldP1

set_option maxRecDepth 100000 in
set_option maxHeartbeats 2000000 in
theorem push_one {w : World} {base n : Nat} {v : Value} {xs : List Value} (h : w.ownsRow base 59 1 v (n + 1) xs) (hI : AllIf xs) (hB : base ≤ w.heap.size) (hn : n ≤ 64) (op at_ : Int) (hop : arN op = 1) :
    Calls Tryd.prog 33 #[v, .int .i64 op, .int .i64 at_] w (Pushed base (n + 1) w) := by
  obtain ⟨g, cap, hv, hg, hgs⟩ := owns_shape h (by omega)
  subst hv
  obtain ⟨t0, u0, hx0⟩ := hI.at (n := n) (by rw [h.1]; omega)
  have c0 := (World.ownsRow.cellAt h n (by omega)).trans hx0
  have hcap := owns_cap h
  have hnc : n ≤ cap := by omega
  have hcm : cap ≤ maxLen := hcap.2
  have HR := Lib.hid (owns_shrink1 h (show n ≤ n + 1 by omega))
  have HC := Lib.hid (arity_any w op (by omega))
  have HOP := Lib.hid hop
  have hz : (0 : Int) ≤ (n : Int) := by omega
  have hzc : (n : Int) ≤ (cap : Int) := by omega
  have hz1 : (n : Int) < (n : Int) + 1 := by omega
  have hw0 : IntKind.i64.wrap (n : Int) = n := IntWalk.i64_in _ ⟨by omega, by omega⟩
  have hw1 : IntKind.i64.wrap ((n : Int) + 1 - 1) = n := by rw [show (n : Int) + 1 - 1 = n by omega]; exact hw0
  obtain ⟨i0, hi0, hz0, hz1, hz2⟩ := info_parts info_node
  have HIP := Lib.hid (And.intro hi0 (And.intro hz0 (And.intro hz1 hz2)))
  have HI := Lib.hid hI
  clear h hop hI hcap hi0 hz0 hz1 hz2 hx0
  go_enter Tryd.func33, Tryd.ntmps33
  go_wp2_with fail
  refine HC.out.mono ?_
  rw [HOP.out]
  rintro e w2 ⟨rfl, hw⟩
  rw [hw]
  clear hw
  go_wp2
  rw [ldP1_is]
  first
  | (go_region_held3 (fun _ => True)
      (trivial)
      ((refine step_append_lies _ (by rfl) _ _ _ (by rfl) base 59 i0 _ 1 16 Tryd.underlying75 HIP.out.1 HIP.out.2.1 HIP.out.2.2.1 HIP.out.2.2.2 rfl (by omega) _ n (xs.take n) (by rfl) (World.ownsRow.alloc (World.ownsRow.drew HR.out) _) ⟨w.heap.size, 0, none⟩ 1 1 [(.iface 92 (.agg #[.int .i64 at_, .iface t0 u0]))] (by rfl) (by rfl) (World.news_of_block (cs := #[(.iface 92 (.agg #[.int .i64 at_, .iface t0 u0]))]) (t := 59) (fr := (0, 0)) (heap_at_size _ _ _ (by simp))) (by simp [Value.oneCell']) (by omega) (by unfold maxLen; omega) (by omega) (by simp; omega) (w.heap.size + 1) (by simp) ?_
        intro g3 cap3 w3 hown3 hgrow hat hlt3
        have HO := Lib.hid hown3
        have HBL := Lib.hid ((((Below.refl base w).drew).alloc (show base ≤ w.heap.size from hB) _).grown hgrow (by simp; omega) (fun k e => (HR.out.lt k e).1))
        clear hown3 hgrow hat)))
  | fail
  all_goals
    go_wp2
    refine bodyPost_ret (v := .tuple #[.slice (some ⟨g3, 0, none⟩) (n + 1) cap3, .bool true]) (by simp [results, Tryd.results33, go_sem]) rfl ?_
    exact ⟨_, _, rfl, HO.out, (HI.out.take n).snoc _ _, HBL.out⟩

def ldP2 : Op := Op.load 59 (Operand.tmp 59)
theorem ldP2_is : Op.load 59 (Operand.tmp 59) = ldP2 := rfl
def ldP3 : Op := Op.load 59 (Operand.tmp 64)
theorem ldP3_is : Op.load 59 (Operand.tmp 64) = ldP3 := rfl
attribute [local go_sem] ldP2 ldP3

set_option maxRecDepth 100000 in
set_option maxHeartbeats 2000000 in
theorem push_two {w : World} {base n : Nat} {v : Value} {xs : List Value} (h : w.ownsRow base 59 1 v (n + 2) xs) (hI : AllIf xs) (hB : base ≤ w.heap.size) (hn : n ≤ 64) (op at_ : Int) (hop : arN op = 2) :
    Calls Tryd.prog 33 #[v, .int .i64 op, .int .i64 at_] w (Pushed base (n + 1) w) := by
  obtain ⟨g, cap, hv, hg, hgs⟩ := owns_shape h (by omega)
  subst hv
  obtain ⟨t0, u0, hx0⟩ := hI.at (n := n) (by rw [h.1]; omega)
  have c0 := (World.ownsRow.cellAt h n (by omega)).trans hx0
  obtain ⟨t1, u1, hx1⟩ := hI.at (n := n + 1) (by rw [h.1]; omega)
  have c1 := (World.ownsRow.cellAt h (n + 1) (by omega)).trans hx1
  have hcap := owns_cap h
  have hnc : n ≤ cap := by omega
  have hcm : cap ≤ maxLen := hcap.2
  have HR := Lib.hid (owns_shrink1 h (show n ≤ n + 2 by omega))
  have HC := Lib.hid (arity_any w op (by omega))
  have HOP := Lib.hid hop
  have hz : (0 : Int) ≤ (n : Int) := by omega
  have hzc : (n : Int) ≤ (cap : Int) := by omega
  have hz1 : (n : Int) < (n : Int) + 2 := by omega
  have hw0 : IntKind.i64.wrap (n : Int) = n := IntWalk.i64_in _ ⟨by omega, by omega⟩
  have hw1 : IntKind.i64.wrap ((n : Int) + 2 - 2) = n := by rw [show (n : Int) + 2 - 2 = n by omega]; exact hw0
  have hw2 : IntKind.i64.wrap ((n : Int) + 2 - 1) = (n : Int) + 1 := by rw [show (n : Int) + 2 - 1 = (n : Int) + 1 by omega]; exact IntWalk.i64_in _ ⟨by omega, by omega⟩
  have hw3 : IntKind.i64.wrap ((n : Int) + 1) = (n : Int) + 1 := IntWalk.i64_in _ ⟨by omega, by omega⟩
  have hz2 : (n : Int) + 1 < (n : Int) + 2 := by omega
  have hz3 : (0 : Int) ≤ (n : Int) + 1 := by omega
  have ht2 : ((n : Int) + 1).toNat = n + 1 := by omega
  obtain ⟨i0, hi0, hz0, hz1, hz2⟩ := info_parts info_node
  have HIP := Lib.hid (And.intro hi0 (And.intro hz0 (And.intro hz1 hz2)))
  have HI := Lib.hid hI
  clear h hop hI hcap hi0 hz0 hz1 hz2 hx0 hx1
  go_enter Tryd.func33, Tryd.ntmps33
  go_wp2_with fail
  refine HC.out.mono ?_
  rw [HOP.out]
  rintro e w2 ⟨rfl, hw⟩
  rw [hw]
  clear hw
  go_wp2
  rw [ldP2_is, ldP3_is]
  first
  | (go_region_held3 (fun _ => True)
      (trivial)
      ((refine step_append_lies _ (by rfl) _ _ _ (by rfl) base 59 i0 _ 1 16 Tryd.underlying75 HIP.out.1 HIP.out.2.1 HIP.out.2.2.1 HIP.out.2.2.2 rfl (by omega) _ n (xs.take n) (by rfl) (World.ownsRow.alloc (World.ownsRow.drew HR.out) _) ⟨w.heap.size, 0, none⟩ 1 1 [(.iface 94 (.agg #[.int .i64 at_, .iface t0 u0, .iface t1 u1]))] (by rfl) (by rfl) (World.news_of_block (cs := #[(.iface 94 (.agg #[.int .i64 at_, .iface t0 u0, .iface t1 u1]))]) (t := 59) (fr := (0, 0)) (heap_at_size _ _ _ (by simp))) (by simp [Value.oneCell']) (by omega) (by unfold maxLen; omega) (by omega) (by simp; omega) (w.heap.size + 1) (by simp) ?_
        intro g3 cap3 w3 hown3 hgrow hat hlt3
        have HO := Lib.hid hown3
        have HBL := Lib.hid ((((Below.refl base w).drew).alloc (show base ≤ w.heap.size from hB) _).grown hgrow (by simp; omega) (fun k e => (HR.out.lt k e).1))
        clear hown3 hgrow hat)))
  | fail
  all_goals
    go_wp2
    refine bodyPost_ret (v := .tuple #[.slice (some ⟨g3, 0, none⟩) (n + 1) cap3, .bool true]) (by simp [results, Tryd.results33, go_sem]) rfl ?_
    exact ⟨_, _, rfl, HO.out, (HI.out.take n).snoc _ _, HBL.out⟩

theorem push_step {x : It} {r : List It} {n : Nat} (h : putN (x :: r) n = some 1) (hn : n ≤ 64) : ∃ m, putN r m = some 1 ∧ m ≤ n + 1 ∧
    ∀ (W : World) (base : Nat) (v : Value) (xs : List Value), W.ownsRow base 59 1 v n xs → AllIf xs → base ≤ W.heap.size → ∀ at_ : Int, Calls Tryd.prog 33 #[v, .int .i64 x.op, .int .i64 at_] W (Pushed base m W) := by
  rw [putN] at h
  split at h
  · rename_i q
    exact ⟨n + 1, h, Nat.le_refl _, fun W base v xs ho hI hB a => push_leaf ho hI hB hn x.op a q⟩
  split at h
  · rename_i q
    obtain ⟨k, rfl⟩ : ∃ k, n = k + 1 := ⟨n - 1, by omega⟩
    exact ⟨k + 1, h, by omega, fun W base v xs ho hI hB a => push_one ho hI hB (by omega) x.op a q.1⟩
  split at h
  · rename_i q
    obtain ⟨k, rfl⟩ : ∃ k, n = k + 2 := ⟨n - 2, by omega⟩
    exact ⟨k + 1, h, by omega, fun W base v xs ho hI hB a => push_two ho hI hB (by omega) x.op a q.1⟩
  · cases h

set_option maxRecDepth 100000 in
set_option maxHeartbeats 4000000 in
theorem built_any {w : World} {v : Value} {O : List It} (h : ItRow w v O) (h0 : 0 < O.length) (h64 : O.length ≤ 64) (hF : putN O 0 = some 1) :
    Calls Tryd.prog 20 #[v] w fun e w' => ∃ nd, e = .returned (.tuple #[nd, .int .i64 0]) ∧ Below w.heap.size w w' := by
  obtain ⟨ad, cap, hv⟩ := h.len
  subst hv
  have HR := Lib.hid h
  have HF := Lib.hid hF
  have hz0 : ((O.length : Int) == 0) = false := beq_eq_false_iff_ne.2 (by omega)
  have hz64 : ¬ (64 : Int) < (O.length : Int) := by omega
  clear h hF
  go_enter Tryd.func20, Tryd.ntmps20
  go_wp2
  go_loopw [4, 19] (fun rv i wr => ∃ k n : Nat, i = .int .i64 k ∧ k ≤ O.length ∧ n ≤ k ∧ Hid (putN (O.drop k) n = some 1 ∧ ∃ xs, wr.ownsRow w.heap.size 59 1 rv n xs ∧ AllIf xs ∧ Below w.heap.size w wr)) (fun _ i _ => O.length - (intOf i).toNat)
  case atStart => exact ⟨0, 0, by go_num, by omega, by omega, HF.out, [], World.ownsRow_nil _ _ _ _, fun x hx => (by cases hx), Below.refl _ _⟩
  case round =>
    obtain ⟨k, n, rfl, hk, hnk, HALL⟩ := hrel
    by_cases hlt : k < O.length
    · obtain ⟨x, hx⟩ : ∃ x, O[k]? = some x := ⟨_, List.getElem?_eq_getElem hlt⟩
      obtain ⟨hP, xs, hO, hI, hB⟩ := HALL.out
      have hd : O.drop k = x :: O.drop (k + 1) := by
        rw [List.drop_eq_getElem_cons hlt]
        congr 1
        exact Option.some.inj ((List.getElem?_eq_getElem hlt).symm.trans hx)
      rw [hd] at hP
      obtain ⟨m, hm, hmn, hC⟩ := push_step hP (by omega)
      obtain ⟨g, c1, hg, hgl, a0, a1, a2, a3, a4, a5, a6, a7, a8⟩ := (HR.out.keep hB).at hx
      simp only [Value.slice.injEq, true_and] at hg
      obtain ⟨rfl, rfl⟩ := hg
      have hib : ItB (wr.alloc (.cells #[.int .i64 x.op, .string x.ln, .int .i64 x.lnum, .string x.rn, .int .i64 x.rnum, .string x.name, .string x.user, .int .i64 x.line, .int .i64 x.col] 41)) wr.heap.size x := heap_alloc_new wr _
      obtain ⟨p0, _, _, _, _, _, _, _, _⟩ := hib.facts
      have HC := Lib.hid (hC _ w.heap.size _ xs (hO.alloc (.cells #[.int .i64 x.op, .string x.ln, .int .i64 x.lnum, .string x.rn, .int .i64 x.rnum, .string x.name, .string x.user, .int .i64 x.line, .int .i64 x.col] 41)) hI (by have := hB.size; simp; omega) k)
      have HB := Lib.hid (hB.alloc hB.size (.cells #[.int .i64 x.op, .string x.ln, .int .i64 x.lnum, .string x.rn, .int .i64 x.rnum, .string x.name, .string x.user, .int .i64 x.line, .int .i64 x.col] 41))
      have HM := Lib.hid hm
      have hkz : (k : Int) < (O.length : Int) := by omega
      clear hP hO hI hB hd hm hC hx hib HALL
      go_wp2_with fail
      refine HC.out.mono ?_
      rintro e w2 ⟨v2, xs2, rfl, hO2, hI2, hB2⟩
      have HN := Lib.hid (And.intro hO2 (And.intro hI2 (HB.out.trans hB2)))
      clear hO2 hI2 hB2
      go_wp2
      go_roundw
      case rel => exact ⟨k + 1, m, by go_num, by omega, by omega, HM.out, xs2, HN.out.1, HN.out.2.1, HN.out.2.2⟩
      case measure => simp [intOf]; omega
    · have hkl : k = O.length := by omega
      subst hkl
      obtain ⟨hP, xs, hO, hI, hB⟩ := HALL.out
      rw [List.drop_length] at hP
      have hn1 : n = 1 := by simpa [putN] using hP
      subst hn1
      obtain ⟨t0, u0, hx0⟩ := hI.at (n := 0) (by rw [hO.1]; decide)
      obtain ⟨g, cp, hv, hg, hgs⟩ := owns_shape hO (by decide)
      subst hv
      have c0 := (World.ownsRow.cellAt hO 0 (by decide)).trans hx0
      have HB := Lib.hid hB
      have c1 : wr.cell? ⟨g, 0, none⟩ = some (.iface t0 u0) := c0
      clear hP hO hI hB hx0 HALL
      go_wp2
      refine bodyPost_ret (v := .tuple #[.iface t0 u0, .int .i64 0]) (by simp [results, Tryd.results20, go_sem]) rfl ?_
      exact ⟨_, rfl, HB.out⟩

set_option maxRecDepth 100000 in
set_option maxHeartbeats 1000000 in
theorem check_any {w : World} {v : Value} {O : List It} (h : ItRow w v O) (h0 : 0 < O.length) (h64 : O.length ≤ 64) (hF : putN O 0 = some 1) :
    Calls Tryd.prog 12 #[v] w fun e w' => e = .returned (.int .i64 0) ∧ Below w.heap.size w w' := by
  have HC := Lib.hid (built_any h h0 h64 hF)
  clear h h0 h64 hF
  go_enter Tryd.func12, Tryd.ntmps12
  go_wp2_with fail
  refine HC.out.mono ?_
  rintro e w2 ⟨nd, rfl, hb2⟩
  have HB := Lib.hid hb2
  clear hb2
  go_wp2
  go_ret
  exact ⟨rfl, HB.out⟩

end Go.Proofs.YtignjhbajjephaaDoor
