/- Plain: a condition is the same as a property, and a property with signs of time is no condition; what is read is a formula. Plain: formulas as trees and as lists; no program in sight. Small lemmas on slices that read, rows that are owned, and an append of one element: of any program; no condition beyond those that each states. -/
import Derived.Test.YtadjnfpomjopkaaGreatSm01
import Derived.Test.YtadjnfpomjopkaaGreatRows
import Derived.WalkKit
import Derived.ProofKit
import Derived.WalkSpells
import Derived.WalkLawsBesides
import Derived.Deep.QuietTactic
import Derived.BigQuiet
import Derived.Lib.Hide
import Derived.OpenShut

namespace Go.Proofs.YtadjnfpomjopkaaGreat
open Go.RowKit

/-- an item of time -/
def timeB (op : Int) : Bool := (decide (11 ≤ op) && decide (op ≤ 14)) || decide (19 ≤ op)
def NoTime (o : List It) : Prop := ∀ x ∈ o, timeB x.op = false
theorem NoTime.nil : NoTime [] := fun _ h => by cases h
theorem NoTime.app {a b : List It} (ha : NoTime a) (hb : NoTime b) : NoTime (a ++ b) := fun x hx => (List.mem_append.1 hx).elim (ha x) (hb x)
theorem NoTime.one {x : It} (h : timeB x.op = false) : NoTime [x] := fun y hy => by rw [List.mem_singleton.1 hy]; exact h
theorem NoTime.left {a b : List It} (h : NoTime (a ++ b)) : NoTime a := fun x hx => h x (List.mem_append_left _ hx)
theorem NoTime.right {a b : List It} (h : NoTime (a ++ b)) : NoTime b := fun x hx => h x (List.mem_append_right _ hx)
theorem NoTime.head {x : It} (h : NoTime [x]) : timeB x.op = false := h x (List.mem_singleton_self _)

/-- f reads what g reads where that is without time -/
def Rel (f g : Int → PR) : Prop := (∀ i o a, f i = .ok o a → g i = .ok o a ∧ NoTime o) ∧ (∀ i o a, g i = .ok o a → NoTime o → f i = .ok o a)

theorem ok_inj {o o' : List It} {a a' : Int} (h : PR.ok o a = .ok o' a') : o = o' ∧ a = a' := by simpa using h

theorem rowP_rel1 {T : List Tk} {f g : Int → PR} (h : Rel f g) (wd : ByteArray) (op : Int) (hop : timeB op = false) : ∀ (k : Nat) (i : Int) (out o : List It) (a : Int), NoTime out → rowP T f wd op k i out = .ok o a → rowP T g wd op k i out = .ok o a ∧ NoTime o
  | 0, i, out, o, a, hn, he => by
    obtain ⟨rfl, rfl⟩ := ok_inj he
    exact ⟨rfl, hn⟩
  | k + 1, i, out, o, a, hn, he => by
    rw [rowP] at he ⊢
    split at he
    · rename_i hq
      rw [if_pos hq]
      obtain ⟨o1, a1, he1, he2⟩ := also_ok he
      obtain ⟨hg, hn1⟩ := h.1 _ _ _ he1
      rw [hg]
      exact rowP_rel1 h wd op hop k _ _ _ _ ((hn.app hn1).app (NoTime.one hop)) he2
    · rename_i hq
      rw [if_neg hq]
      obtain ⟨rfl, rfl⟩ := ok_inj he
      exact ⟨rfl, hn⟩
theorem rowP_pre {T : List Tk} {g : Int → PR} (wd : ByteArray) (op : Int) : ∀ (k : Nat) (i : Int) (out o : List It) (a : Int), rowP T g wd op k i out = .ok o a → ∃ r, o = out ++ r
  | 0, i, out, o, a, he => by
    obtain ⟨rfl, rfl⟩ := ok_inj he
    exact ⟨[], by simp⟩
  | k + 1, i, out, o, a, he => by
    rw [rowP] at he
    split at he
    · obtain ⟨o1, a1, he1, he2⟩ := also_ok he
      obtain ⟨r, hr⟩ := rowP_pre wd op k _ _ _ _ he2
      exact ⟨_, by rw [hr, List.append_assoc, List.append_assoc]⟩
    · obtain ⟨rfl, rfl⟩ := ok_inj he
      exact ⟨[], by simp⟩
theorem rowP_rel2 {T : List Tk} {f g : Int → PR} (h : Rel f g) (wd : ByteArray) (op : Int) : ∀ (k : Nat) (i : Int) (out o : List It) (a : Int), rowP T g wd op k i out = .ok o a → NoTime o → rowP T f wd op k i out = .ok o a
  | 0, i, out, o, a, he, hn => by
    obtain ⟨rfl, rfl⟩ := ok_inj he
    rfl
  | k + 1, i, out, o, a, he, hn => by
    rw [rowP] at he ⊢
    split at he
    · rename_i hq
      rw [if_pos hq]
      obtain ⟨o1, a1, he1, he2⟩ := also_ok he
      obtain ⟨r, hr⟩ := rowP_pre wd op k _ _ _ _ he2
      have hn1 : NoTime o1 := by rw [hr] at hn; exact hn.left.left.right
      rw [h.2 _ _ _ he1 hn1]
      exact rowP_rel2 h wd op k _ _ _ _ he2 hn
    · rename_i hq
      rw [if_neg hq]
      obtain ⟨rfl, rfl⟩ := ok_inj he
      rfl
theorem rowsP_rel {T : List Tk} {f g : Int → PR} (h : Rel f g) (wd : ByteArray) (op : Int) (hop : timeB op = false) : Rel (rowsP T f wd op) (rowsP T g wd op) := by
  refine ⟨fun i o a he => ?_, fun i o a he hn => ?_⟩
  · obtain ⟨o1, a1, he1, he2⟩ := also_ok he
    obtain ⟨hg, hn1⟩ := h.1 _ _ _ he1
    unfold rowsP
    rw [hg]
    exact rowP_rel1 h wd op hop _ _ _ _ _ hn1 he2
  · obtain ⟨o1, a1, he1, he2⟩ := also_ok he
    obtain ⟨r, hr⟩ := rowP_pre wd op _ _ _ _ _ he2
    have hn1 : NoTime o1 := by rw [hr] at hn; exact hn.left
    unfold rowsP
    rw [h.2 _ _ _ he1 hn1]
    exact rowP_rel2 h wd op _ _ _ _ _ he2 hn

theorem comp_range (T : List Tk) (i : Int) : compN T i = 0 ∨ (3 ≤ compN T i ∧ compN T i ≤ 8) := by
  unfold compN
  repeat' split
  all_goals omega
theorem timeB_low {op : Int} (h : op ≤ 10) : timeB op = false := by
  unfold timeB
  have h1 : ¬ 11 ≤ op := by omega
  have h2 : ¬ 19 ≤ op := by omega
  simp [h1, h2]
theorem compP_notime (T : List Tk) (i : Int) (o : List It) (a : Int) (h : compP T i = .ok o a) : NoTime o := by
  unfold compP at h
  split at h
  · split at h
    · cases h
    · split at h
      · obtain ⟨rfl, rfl⟩ := ok_inj h
        exact NoTime.one (timeB_low (by have := comp_range T (i + 1); dsimp only; omega))
      · cases h
  · cases h
theorem namedP_op (T : List Tk) (i op : Int) (o : List It) (a : Int) (h : namedP T i op = .ok o a) : ∃ x, o = [x] ∧ x.op = op := by
  unfold namedP at h
  split at h
  · obtain ⟨rfl, rfl⟩ := ok_inj h; exact ⟨_, rfl, rfl⟩
  · cases h
theorem didP_op (T : List Tk) (i : Int) (o : List It) (a : Int) (h : didP T i = .ok o a) : ∃ x, o = [x] ∧ x.op = 12 := by
  unfold didP at h
  split at h
  · split at h
    · obtain ⟨rfl, rfl⟩ := ok_inj h; exact ⟨_, rfl, rfl⟩
    · cases h
  · cases h
theorem time_no {x : It} {op : Int} (hn : NoTime [x]) (h : x.op = op) (ht : timeB op = true) : False := by
  have := hn.head; rw [h, ht] at this; cases this
theorem atomP_rel (T : List Tk) : Rel (atomP T false) (atomP T true) := by
  refine ⟨fun i o a h => ?_, fun i o a h hn => ?_⟩
  · unfold atomP at h ⊢
    split at h
    · rename_i q; rw [if_pos q]
      obtain ⟨x, rfl, hx⟩ := namedP_op _ _ _ _ _ h
      exact ⟨h, NoTime.one (by rw [hx]; rfl)⟩
    rename_i q; rw [if_neg q]
    split at h
    · rename_i q; rw [if_pos q]
      obtain ⟨x, rfl, hx⟩ := namedP_op _ _ _ _ _ h
      exact ⟨h, NoTime.one (by rw [hx]; rfl)⟩
    rename_i q; rw [if_neg q]
    split at h
    · rename_i q; rw [if_pos q]
      obtain ⟨rfl, rfl⟩ := ok_inj h
      exact ⟨rfl, NoTime.one rfl⟩
    rename_i q; rw [if_neg q]
    split at h
    · rename_i q; rw [if_pos q]
      obtain ⟨rfl, rfl⟩ := ok_inj h
      exact ⟨rfl, NoTime.one rfl⟩
    rw [if_pos rfl] at h
    cases h
  · unfold atomP at h ⊢
    split at h
    · rename_i q; rw [if_pos q]; exact h
    rename_i q; rw [if_neg q]
    split at h
    · rename_i q; rw [if_pos q]; exact h
    rename_i q; rw [if_neg q]
    split at h
    · rename_i q; rw [if_pos q]; exact h
    rename_i q; rw [if_neg q]
    split at h
    · rename_i q; rw [if_pos q]; exact h
    rw [if_neg (by decide)] at h
    exfalso
    split at h
    · obtain ⟨x, rfl, hx⟩ := namedP_op _ _ _ _ _ h
      exact time_no hn hx rfl
    split at h
    · obtain ⟨x, rfl, hx⟩ := didP_op _ _ _ _ h
      exact time_no hn hx rfl
    split at h
    · obtain ⟨rfl, rfl⟩ := ok_inj h
      exact time_no hn (op := 13) rfl rfl
    split at h
    · obtain ⟨rfl, rfl⟩ := ok_inj h
      exact time_no hn (op := 14) rfl rfl
    · cases h
theorem untilP_time {T : List Tk} {form : Int → PR} (op i : Int) (o : List It) (a : Int) (he : untilP T form op i = .ok o a) (hop : timeB op = true) : ¬ NoTime o := by
  unfold untilP at he
  obtain ⟨h1, he⟩ := need_ok he
  obtain ⟨o1, b, hf, he⟩ := also_ok he
  obtain ⟨h2, he⟩ := need_ok he
  obtain ⟨o2, d, hf2, he⟩ := also_ok he
  obtain ⟨h3, he⟩ := need_ok he
  obtain ⟨rfl, rfl⟩ := ok_inj he
  intro hn
  have := hn.right.head
  rw [show (item op (tkAt T i)).op = op from rfl, hop] at this
  cases this
theorem temp_range (s : ByteArray) : tempN s = 0 ∨ (19 ≤ tempN s ∧ tempN s ≤ 24) := by
  unfold tempN
  repeat' split
  all_goals omega
theorem timeB_high {op : Int} (h : 19 ≤ op) : timeB op = true := by unfold timeB; simp [h]
theorem signP_rel {T : List Tk} {s1 s2 f1 f2 : Int → PR} (hs : Rel s1 s2) (hf : Rel f1 f2) : Rel (signP T false s1 f1) (signP T true s2 f2) := by
  refine ⟨fun i o a h => ?_, fun i o a h hn => ?_⟩
  · unfold signP at h ⊢
    split at h
    · rename_i q; rw [if_pos q]
      obtain ⟨o1, b, h1, h2⟩ := also_ok h
      obtain ⟨hg, hn⟩ := hf.1 _ _ _ h1
      rw [hg]
      obtain ⟨h3, h4⟩ := need_ok h2
      obtain ⟨rfl, rfl⟩ := ok_inj h4
      exact ⟨h2, hn⟩
    rename_i q; rw [if_neg q]
    split at h
    · rename_i q; rw [if_pos q]
      exact ⟨h, compP_notime _ _ _ _ h⟩
    rename_i q; rw [if_neg q]
    split at h
    · rename_i q; rw [if_pos q]
      obtain ⟨o1, b, h1, h2⟩ := also_ok h
      obtain ⟨hg, hn⟩ := hs.1 _ _ _ h1
      rw [hg]
      obtain ⟨rfl, rfl⟩ := ok_inj h2
      exact ⟨rfl, hn.app (NoTime.one rfl)⟩
    rename_i q; rw [if_neg q]
    split at h
    · cases h
    rename_i q
    have q' : ¬ (tempN (tkAt T i).text > 0 ∨ (tkAt T i).text = wA ∨ (tkAt T i).text = wE) := fun h => q ⟨rfl, h⟩
    have ha : (tkAt T i).text ≠ wA := fun h => q' (.inr (.inl h))
    have hb : (tkAt T i).text ≠ wE := fun h => q' (.inr (.inr h))
    have h0 : tempN (tkAt T i).text = 0 := by have := temp_range (tkAt T i).text; have h9 : ¬ tempN (tkAt T i).text > 0 := fun h => q' (.inl h); omega
    rw [if_neg ha, if_neg hb, if_pos h0] at h
    rw [if_neg (fun h => by cases h.1), if_neg ha, if_neg hb, if_pos h0]
    exact (atomP_rel T).1 _ _ _ h
  · unfold signP at h ⊢
    split at h
    · rename_i q; rw [if_pos q]
      obtain ⟨o1, b, h1, h2⟩ := also_ok h
      obtain ⟨h3, h4⟩ := need_ok h2
      obtain ⟨rfl, rfl⟩ := ok_inj h4
      rw [hf.2 _ _ _ h1 hn]
      exact h2
    rename_i q; rw [if_neg q]
    split at h
    · rename_i q; rw [if_pos q]; exact h
    rename_i q; rw [if_neg q]
    split at h
    · rename_i q; rw [if_pos q]
      obtain ⟨o1, b, h1, h2⟩ := also_ok h
      obtain ⟨rfl, rfl⟩ := ok_inj h2
      rw [hs.2 _ _ _ h1 hn.left]
      rfl
    rename_i q; rw [if_neg q]
    rw [if_neg (fun h => by cases h.1)] at h
    by_cases ha : (tkAt T i).text = wA
    · rw [if_pos ha] at h; exact absurd hn (untilP_time _ _ _ _ h rfl)
    rw [if_neg ha] at h
    by_cases hb : (tkAt T i).text = wE
    · rw [if_pos hb] at h; exact absurd hn (untilP_time _ _ _ _ h rfl)
    rw [if_neg hb] at h
    by_cases h0 : tempN (tkAt T i).text = 0
    · rw [if_pos h0] at h
      have hq : ¬ (false = false ∧ (tempN (tkAt T i).text > 0 ∨ (tkAt T i).text = wA ∨ (tkAt T i).text = wE)) := by
        rintro ⟨_, h | h | h⟩
        · omega
        · exact ha h
        · exact hb h
      rw [if_neg hq, if_neg ha, if_neg hb, if_pos h0]
      exact (atomP_rel T).2 _ _ _ h hn
    · rw [if_neg h0] at h
      obtain ⟨o1, b, h1, h2⟩ := also_ok h
      obtain ⟨rfl, rfl⟩ := ok_inj h2
      have := hn.right.head
      rw [show (item (tempN (tkAt T i).text) (tkAt T i)).op = tempN (tkAt T i).text from rfl, timeB_high (by have := temp_range (tkAt T i).text; omega)] at this
      cases this
theorem formP_rel {T : List Tk} {s1 s2 f1 f2 : Int → PR} (hs : Rel s1 s2) (hf : Rel f1 f2) : Rel (formP T s1 f1) (formP T s2 f2) := by
  have hr := rowsP_rel (T := T) (rowsP_rel (T := T) hs wAnd 16 rfl) wOr 17 rfl
  refine ⟨fun i o a h => ?_, fun i o a h hn => ?_⟩
  · unfold formP at h ⊢
    obtain ⟨o1, b, h1, h2⟩ := also_ok h
    obtain ⟨hg, hn⟩ := hr.1 _ _ _ h1
    rw [hg]
    show (if isTk T b 2 wImplies = true then _ else _) = _ ∧ _
    split at h2
    · rename_i q; rw [if_pos q]
      obtain ⟨o2, c, h3, h4⟩ := also_ok h2
      obtain ⟨hg2, hn2⟩ := hf.1 _ _ _ h3
      obtain ⟨rfl, rfl⟩ := ok_inj h4
      rw [hg2]
      exact ⟨rfl, (hn.app hn2).app (NoTime.one rfl)⟩
    · rename_i q; rw [if_neg q]
      obtain ⟨rfl, rfl⟩ := ok_inj h2
      exact ⟨rfl, hn⟩
  · unfold formP at h ⊢
    obtain ⟨o1, b, h1, h2⟩ := also_ok h
    split at h2
    · rename_i q
      obtain ⟨o2, c, h3, h4⟩ := also_ok h2
      obtain ⟨rfl, rfl⟩ := ok_inj h4
      rw [hr.2 _ _ _ h1 hn.left.left]
      show (if isTk T b 2 wImplies = true then _ else _) = _
      rw [if_pos q, hf.2 _ _ _ h3 hn.left.right]
      rfl
    · rename_i q
      obtain ⟨rfl, rfl⟩ := ok_inj h2
      rw [hr.2 _ _ _ h1 hn]
      show (if isTk T b 2 wImplies = true then _ else _) = _
      rw [if_neg q]
theorem both_rel (T : List Tk) : ∀ n, Rel (bothP T false n).1 (bothP T true n).1 ∧ Rel (bothP T false n).2 (bothP T true n).2
  | 0 => ⟨⟨fun i o a h => (by have h : badP T i 5 = .ok o a := h; cases h), fun i o a h _ => (by have h : badP T i 5 = .ok o a := h; cases h)⟩, ⟨fun i o a h => (by have h : badP T i 5 = .ok o a := h; cases h), fun i o a h _ => (by have h : badP T i 5 = .ok o a := h; cases h)⟩⟩
  | n + 1 => by
    have ih := both_rel T n
    have hs := signP_rel (T := T) ih.1 ih.2
    exact ⟨hs, formP_rel hs ih.2⟩

/-! ### what is read is a formula -/

/-- of how many formulas an item is put -/
def arN (op : Int) : Int := if 1 ≤ op ∧ op ≤ 14 then 0 else if op = 15 ∨ (19 ≤ op ∧ op ≤ 24) then 1 else if (16 ≤ op ∧ op ≤ 18) ∨ op = 25 ∨ op = 26 then 2 else -1
/-- how many formulas lie there, when items are put on so many -/
def putN : List It → Nat → Option Nat
  | [], n => some n
  | x :: r, n => if arN x.op = 0 then putN r (n + 1) else if arN x.op = 1 ∧ 1 ≤ n then putN r n else if arN x.op = 2 ∧ 2 ≤ n then putN r (n - 1) else none
theorem putN_app (b : List It) : ∀ (a : List It) (n m : Nat), putN a n = some m → putN (a ++ b) n = putN b m
  | [], n, m, h => by simp only [putN, Option.some.injEq] at h; subst h; rfl
  | x :: r, n, m, h => by
    rw [putN] at h
    rw [List.cons_append, putN]
    split at h
    · rename_i q; rw [if_pos q]; exact putN_app b r _ _ h
    rename_i q; rw [if_neg q]
    split at h
    · rename_i q; rw [if_pos q]; exact putN_app b r _ _ h
    rename_i q; rw [if_neg q]
    split at h
    · rename_i q; rw [if_pos q]; exact putN_app b r _ _ h
    · cases h
/-- items that are one formula more, on whatever lies there -/
def OneF (o : List It) : Prop := ∀ n, putN o n = some (n + 1)
def Forms (f : Int → PR) : Prop := ∀ i o a, f i = .ok o a → OneF o
theorem OneF.leaf {x : It} (h : arN x.op = 0) : OneF [x] := fun n => by simp [putN, h]
theorem OneF.un {o : List It} {x : It} (ho : OneF o) (h : arN x.op = 1) : OneF (o ++ [x]) := fun n => by
  rw [putN_app _ _ _ _ (ho n)]; simp [putN, h]
theorem OneF.bin {o o2 : List It} {x : It} (ho : OneF o) (ho2 : OneF o2) (h : arN x.op = 2) : OneF (o ++ o2 ++ [x]) := fun n => by
  rw [List.append_assoc, putN_app _ _ _ _ (ho n), putN_app _ _ _ _ (ho2 (n + 1))]; simp [putN, h]
theorem rowP_forms {T : List Tk} {f : Int → PR} (h : Forms f) (wd : ByteArray) (op : Int) (hop : arN op = 2) : ∀ (k : Nat) (i : Int) (out o : List It) (a : Int), OneF out → rowP T f wd op k i out = .ok o a → OneF o
  | 0, i, out, o, a, hn, he => by
    obtain ⟨rfl, rfl⟩ := ok_inj he
    exact hn
  | k + 1, i, out, o, a, hn, he => by
    rw [rowP] at he
    split at he
    · obtain ⟨o1, a1, he1, he2⟩ := also_ok he
      exact rowP_forms h wd op hop k _ _ _ _ (hn.bin (h _ _ _ he1) hop) he2
    · obtain ⟨rfl, rfl⟩ := ok_inj he
      exact hn
theorem rowsP_forms {T : List Tk} {f : Int → PR} (h : Forms f) (wd : ByteArray) (op : Int) (hop : arN op = 2) : Forms (rowsP T f wd op) := by
  intro i o a he
  obtain ⟨o1, a1, he1, he2⟩ := also_ok he
  exact rowP_forms h wd op hop _ _ _ _ _ (h _ _ _ he1) he2
theorem arN_leaf {op : Int} (h : 1 ≤ op ∧ op ≤ 14) : arN op = 0 := by unfold arN; rw [if_pos h]
theorem compP_forms (T : List Tk) : Forms (compP T) := by
  intro i o a h
  unfold compP at h
  split at h
  · split at h
    · cases h
    · split at h
      · obtain ⟨rfl, rfl⟩ := ok_inj h
        exact OneF.leaf (arN_leaf (by have := comp_range T (i + 1); dsimp only; omega))
      · cases h
  · cases h
theorem atomP_forms (T : List Tk) (prop : Bool) : Forms (atomP T prop) := by
  intro i o a h
  unfold atomP at h
  split at h
  · obtain ⟨x, rfl, hx⟩ := namedP_op _ _ _ _ _ h; exact OneF.leaf (by rw [hx]; rfl)
  split at h
  · obtain ⟨x, rfl, hx⟩ := namedP_op _ _ _ _ _ h; exact OneF.leaf (by rw [hx]; rfl)
  split at h
  · obtain ⟨rfl, rfl⟩ := ok_inj h; exact OneF.leaf rfl
  split at h
  · obtain ⟨rfl, rfl⟩ := ok_inj h; exact OneF.leaf rfl
  split at h
  · cases h
  split at h
  · obtain ⟨x, rfl, hx⟩ := namedP_op _ _ _ _ _ h; exact OneF.leaf (by rw [hx]; rfl)
  split at h
  · obtain ⟨x, rfl, hx⟩ := didP_op _ _ _ _ h; exact OneF.leaf (by rw [hx]; rfl)
  split at h
  · obtain ⟨rfl, rfl⟩ := ok_inj h; exact OneF.leaf rfl
  split at h
  · obtain ⟨rfl, rfl⟩ := ok_inj h; exact OneF.leaf rfl
  · cases h
theorem untilP_forms {T : List Tk} {form : Int → PR} (hf : Forms form) (op : Int) (hop : arN op = 2) : Forms (untilP T form op) := by
  intro i o a he
  unfold untilP at he
  obtain ⟨h1, he⟩ := need_ok he
  obtain ⟨o1, b, hf1, he⟩ := also_ok he
  obtain ⟨h2, he⟩ := need_ok he
  obtain ⟨o2, d, hf2, he⟩ := also_ok he
  obtain ⟨h3, he⟩ := need_ok he
  obtain ⟨rfl, rfl⟩ := ok_inj he
  exact (hf _ _ _ hf1).bin (hf _ _ _ hf2) hop
theorem arN_temp {op : Int} (h : 19 ≤ op ∧ op ≤ 24) : arN op = 1 := by unfold arN; rw [if_neg (by omega), if_pos (.inr h)]
theorem signP_forms {T : List Tk} {prop : Bool} {sg form : Int → PR} (hs : Forms sg) (hf : Forms form) : Forms (signP T prop sg form) := by
  intro i o a h
  unfold signP at h
  split at h
  · obtain ⟨o1, b, h1, h2⟩ := also_ok h
    obtain ⟨h3, h4⟩ := need_ok h2
    obtain ⟨rfl, rfl⟩ := ok_inj h4
    exact hf _ _ _ h1
  split at h
  · exact compP_forms T _ _ _ h
  split at h
  · obtain ⟨o1, b, h1, h2⟩ := also_ok h
    obtain ⟨rfl, rfl⟩ := ok_inj h2
    exact (hs _ _ _ h1).un rfl
  split at h
  · cases h
  split at h
  · exact untilP_forms hf 25 rfl _ _ _ h
  split at h
  · exact untilP_forms hf 26 rfl _ _ _ h
  split at h
  · exact atomP_forms T prop _ _ _ h
  · rename_i q
    obtain ⟨o1, b, h1, h2⟩ := also_ok h
    obtain ⟨rfl, rfl⟩ := ok_inj h2
    exact (hs _ _ _ h1).un (arN_temp (by have := temp_range (tkAt T i).text; show 19 ≤ tempN (tkAt T i).text ∧ tempN (tkAt T i).text ≤ 24; omega))
theorem formP_forms {T : List Tk} {sg form : Int → PR} (hs : Forms sg) (hf : Forms form) : Forms (formP T sg form) := by
  intro i o a h
  unfold formP at h
  obtain ⟨o1, b, h1, h2⟩ := also_ok h
  have g1 := rowsP_forms (T := T) (rowsP_forms (T := T) hs wAnd 16 rfl) wOr 17 rfl _ _ _ h1
  split at h2
  · obtain ⟨o2, c, h3, h4⟩ := also_ok h2
    obtain ⟨rfl, rfl⟩ := ok_inj h4
    exact g1.bin (hf _ _ _ h3) rfl
  · obtain ⟨rfl, rfl⟩ := ok_inj h2
    exact g1
theorem both_forms (T : List Tk) (prop : Bool) : ∀ n, Forms (bothP T prop n).1 ∧ Forms (bothP T prop n).2
  | 0 => ⟨fun i o a h => (by have h : badP T i 5 = .ok o a := h; cases h), fun i o a h => (by have h : badP T i 5 = .ok o a := h; cases h)⟩
  | n + 1 => by
    have ih := both_forms T prop n
    have hs := signP_forms (T := T) (prop := prop) ih.1 ih.2
    exact ⟨hs, formP_forms hs ih.2⟩

end Go.Proofs.YtadjnfpomjopkaaGreat

namespace Go.Proofs.YtadjnfpomjopkaaGreat
open Go.RowKit

/-- a formula as a tree: an item alone, put of a formula, put of two -/
inductive Fm where
  | leaf (x : It) (h : arN x.op = 0)
  | one (x : It) (h : arN x.op = 1) (f : Fm)
  | two (x : It) (h : arN x.op = 2) (f g : Fm)
def Fm.flat : Fm → List It
  | .leaf x _ => [x]
  | .one x _ f => f.flat ++ [x]
  | .two x _ f g => f.flat ++ g.flat ++ [x]
def Fm.op : Fm → Int
  | .leaf x _ => x.op
  | .one x _ _ => x.op
  | .two x _ _ _ => x.op
theorem Fm.flat_pos : ∀ f : Fm, 0 < f.flat.length
  | .leaf _ _ => by simp [Fm.flat]
  | .one _ _ _ => by simp [Fm.flat]
  | .two _ _ _ _ => by simp only [Fm.flat, List.length_append, List.length_cons, List.length_nil]; omega

/-- an item put on a row of formulas, the last one first -/
def pushF (x : It) (R : List Fm) : Option (List Fm) :=
  if h : arN x.op = 0 then some (.leaf x h :: R)
  else if h : arN x.op = 1 then (match R with | f :: S => some (.one x h f :: S) | [] => none)
  else if h : arN x.op = 2 then (match R with | g :: f :: S => some (.two x h f g :: S) | _ => none)
  else none
def buildF : List It → List Fm → Option (List Fm)
  | [], R => some R
  | x :: r, R => match pushF x R with | some S => buildF r S | none => none
def flats (R : List Fm) : List It := R.reverse.flatMap Fm.flat
theorem flats_cons (f : Fm) (R : List Fm) : flats (f :: R) = flats R ++ f.flat := by simp [flats]
theorem flats_nil : flats [] = [] := rfl
theorem pushF_flat {x : It} {R S : List Fm} (h : pushF x R = some S) : flats S = flats R ++ [x] := by
  unfold pushF at h
  split at h
  · cases h; rw [flats_cons]; rfl
  split at h
  · split at h
    · cases h; rw [flats_cons, flats_cons]; simp [Fm.flat]
    · cases h
  split at h
  · split at h
    · cases h; rw [flats_cons, flats_cons, flats_cons]; simp [Fm.flat]
    · cases h
  · cases h
theorem pushF_len {x : It} {R S : List Fm} (h : pushF x R = some S) : S.length ≤ R.length + 1 := by
  unfold pushF at h
  split at h
  · cases h; simp
  split at h
  · split at h
    · cases h; simp
    · cases h
  split at h
  · split at h
    · cases h; simp only [List.length_cons]; omega
    · cases h
  · cases h
theorem buildF_flat : ∀ (l : List It) (R S : List Fm), buildF l R = some S → flats S = flats R ++ l
  | [], R, S, h => by cases h; simp
  | x :: r, R, S, h => by
    rw [buildF] at h
    cases hp : pushF x R with
    | none => rw [hp] at h; cases h
    | some S1 =>
      rw [hp] at h
      rw [buildF_flat r S1 S h, pushF_flat hp, List.append_assoc]
      rfl
theorem buildF_tree : ∀ (f : Fm) (r : List It) (R : List Fm), buildF (f.flat ++ r) R = buildF r (f :: R)
  | .leaf x h, r, R => by
    simp only [Fm.flat, List.cons_append, List.nil_append, buildF]
    have : pushF x R = some (.leaf x h :: R) := by unfold pushF; rw [dif_pos h]
    rw [this]
  | .one x h f, r, R => by
    simp only [Fm.flat, List.append_assoc]
    rw [buildF_tree f]
    simp only [List.cons_append, List.nil_append, buildF]
    have : pushF x (f :: R) = some (.one x h f :: R) := by unfold pushF; rw [dif_neg (by omega), dif_pos h]
    rw [this]
  | .two x h f g, r, R => by
    simp only [Fm.flat, List.append_assoc]
    rw [buildF_tree f, buildF_tree g]
    simp only [List.cons_append, List.nil_append, buildF]
    have : pushF x (g :: f :: R) = some (.two x h f g :: R) := by unfold pushF; rw [dif_neg (by omega), dif_neg (by omega), dif_pos h]
    rw [this]

/-- the formula that a list is -/
def treeF (l : List It) : Option Fm := match buildF l [] with | some [f] => some f | _ => none
theorem treeF_flat {l : List It} {f : Fm} (h : treeF l = some f) : f.flat = l := by
  unfold treeF at h
  split at h
  · rename_i g hg
    cases h
    have := buildF_flat _ _ _ hg
    simpa [flats] using this
  · cases h
theorem treeF_of (f : Fm) : treeF f.flat = some f := by
  unfold treeF
  have := buildF_tree f [] []
  rw [List.append_nil] at this
  rw [this]; rfl

/-- why a list may be no formula -/
def chkN (l : List It) : Int := if l.length = 0 then 12 else if 64 < l.length then 3 else match treeF l with | some _ => 0 | none => 17
theorem chk_ok {l : List It} (h : chkN l = 0) : 0 < l.length ∧ l.length ≤ 64 ∧ ∃ f : Fm, f.flat = l := by
  unfold chkN at h
  split at h
  · omega
  split at h
  · omega
  split at h
  · rename_i f hf
    exact ⟨by omega, by omega, f, treeF_flat hf⟩
  · omega
theorem chk_no {l : List It} (h : chkN l ≠ 0) : chkN l = 12 ∨ chkN l = 3 ∨ chkN l = 17 := by
  unfold chkN at h ⊢
  split
  · exact .inl rfl
  split
  · exact .inr (.inl rfl)
  split
  · rename_i f hf
    rw [if_neg (by assumption), if_neg (by assumption), hf] at h
    exact absurd rfl h
  · exact .inr (.inr rfl)
theorem arN_in (op : Int) : -1 ≤ arN op ∧ arN op ≤ 2 := by
  unfold arN
  repeat' split
  all_goals omega

/-! where a part begins, counted from its end -/
def itAt (l : List It) (i : Nat) : It := match l[i]? with | some x => x | none => ⟨0, ⟨#[]⟩, 0, ⟨#[]⟩, 0, ⟨#[]⟩, ⟨#[]⟩, 0, 0⟩
def begB (l : List It) : Nat → Int → Int
  | 0, _ => -1
  | i + 1, want => if arN (itAt l i).op < 0 then -1 else if want + arN (itAt l i).op - 1 = 0 then (i : Int) else begB l i (want + arN (itAt l i).op - 1)
theorem itAt_mid (A B : List It) (x : It) : itAt (A ++ x :: B) A.length = x := by simp [itAt]
theorem begB_step (A B : List It) (x : It) (want : Int) : begB (A ++ x :: B) (A.length + 1) want = if arN x.op < 0 then -1 else if want + arN x.op - 1 = 0 then (A.length : Int) else begB (A ++ x :: B) A.length (want + arN x.op - 1) := by
  rw [begB, itAt_mid]
theorem begB_tree : ∀ (f : Fm) (A B : List It) (want : Int), 1 ≤ want → begB (A ++ f.flat ++ B) (A.length + f.flat.length) want = if want = 1 then (A.length : Int) else begB (A ++ f.flat ++ B) A.length (want - 1)
  | .leaf x h, A, B, want, hw => by
    simp only [Fm.flat, List.append_assoc, List.cons_append, List.nil_append, List.length_cons, List.length_nil, Nat.zero_add]
    rw [begB_step, h, if_neg (by omega)]
    by_cases h1 : want = 1
    · rw [if_pos (by omega), if_pos h1]
    · rw [if_neg (by omega), if_neg h1]
      rw [show want + 0 - 1 = want - 1 by omega]
  | .one x h f, A, B, want, hw => by
    have e1 : A ++ (Fm.one x h f).flat ++ B = (A ++ f.flat) ++ x :: B := by simp [Fm.flat]
    have e2 : A.length + (Fm.one x h f).flat.length = (A ++ f.flat).length + 1 := by simp [Fm.flat]; omega
    rw [e1, e2, begB_step, h, if_neg (by omega), if_neg (by omega)]
    have := begB_tree f A (x :: B) want hw
    rw [show want + 1 - 1 = want by omega, List.length_append]
    exact this
  | .two x h f g, A, B, want, hw => by
    have e1 : A ++ (Fm.two x h f g).flat ++ B = (A ++ f.flat ++ g.flat) ++ x :: B := by simp [Fm.flat]
    have e2 : A.length + (Fm.two x h f g).flat.length = (A ++ f.flat ++ g.flat).length + 1 := by simp [Fm.flat]; omega
    rw [e1, e2, begB_step, h, if_neg (by omega), if_neg (by omega)]
    have hg := begB_tree g (A ++ f.flat) (x :: B) (want + 2 - 1) (by omega)
    rw [if_neg (by omega)] at hg
    rw [List.length_append, hg]
    have hf := begB_tree f A (g.flat ++ x :: B) want hw
    have e3 : A ++ f.flat ++ (g.flat ++ x :: B) = A ++ f.flat ++ g.flat ++ x :: B := by simp
    rw [e3] at hf
    rw [show want + 2 - 1 - 1 = want by omega, List.length_append, hf]
theorem begB_some : ∀ (l : List It) (n : Nat) (want : Int), n ≤ l.length → 1 ≤ want → begB l n want = 0 → ∃ S : List Fm, (S.length : Int) = want ∧ flats S = l.take n
  | l, 0, want, _, _, h => by rw [begB] at h; omega
  | l, i + 1, want, hn, hw, h => by
    rw [begB] at h
    obtain ⟨x, hx⟩ : ∃ x, l[i]? = some x := ⟨_, List.getElem?_eq_getElem (by omega)⟩
    have hi : itAt l i = x := by unfold itAt; rw [hx]
    have ht : l.take (i + 1) = l.take i ++ [x] := by rw [List.take_add_one, hx]; rfl
    rw [hi] at h
    split at h
    · omega
    have := arN_in x.op
    split at h
    · rename_i h0 h1
      have hi0 : i = 0 := by omega
      subst hi0
      have ha : arN x.op = 0 := by omega
      exact ⟨[.leaf x ha], by simp; omega, by rw [ht]; simp [flats, Fm.flat]⟩
    · obtain ⟨S, hS, hf⟩ := begB_some l i _ (by omega) (by omega) h
      have h3 : arN x.op = 0 ∨ arN x.op = 1 ∨ arN x.op = 2 := by omega
      rcases h3 with ha | ha | ha
      · exact ⟨.leaf x ha :: S, by simp; omega, by rw [flats_cons, hf, ht]; rfl⟩
      · match S, hS, hf with
        | f :: S, hS, hf => exact ⟨.one x ha f :: S, by simp at hS ⊢; omega, by rw [flats_cons] at hf ⊢; rw [ht, ← hf]; simp [Fm.flat]⟩
        | [], hS, _ => simp at hS; omega
      · match S, hS, hf with
        | g :: f :: S, hS, hf => exact ⟨.two x ha f g :: S, by simp at hS ⊢; omega, by rw [flats_cons, flats_cons] at hf; rw [flats_cons, ht, ← hf]; simp [Fm.flat]⟩
        | [f], hS, _ => simp at hS; omega
        | [], hS, _ => simp at hS; omega
theorem begB_treeF (l : List It) : begB l l.length 1 = 0 ↔ ∃ f, treeF l = some f := by
  constructor
  · intro h
    obtain ⟨S, hS, hf⟩ := begB_some l _ 1 (Nat.le_refl _) (by omega) h
    match S, hS, hf with
    | [f], _, hf =>
      have : f.flat = l := by simpa [flats] using hf
      exact ⟨f, by rw [← this]; exact treeF_of f⟩
  · rintro ⟨f, hf⟩
    have hfl := treeF_flat hf
    have := begB_tree f [] [] 1 (by omega)
    rw [if_pos rfl] at this
    simpa [hfl] using this
theorem begB_range (l : List It) : ∀ (n : Nat) (want : Int), -1 ≤ begB l n want ∧ begB l n want < n ∨ begB l n want = -1
  | 0, _ => .inr rfl
  | i + 1, want => by
    rw [begB]
    split
    · exact .inr rfl
    split
    · exact .inl ⟨by omega, by omega⟩
    · rcases begB_range l i (want + arN (itAt l i).op - 1) with h | h
      · exact .inl ⟨h.1, by omega⟩
      · exact .inr h

end Go.Proofs.YtadjnfpomjopkaaGreat

namespace Go.Proofs.YtadjnfpomjopkaaGreat
open Go.RowKit

theorem ret_int {k : IntKind} {a b : Int} (h : a = b) : Ending.returned (.int k a) = .returned (.int k b) := by rw [h]
theorem ret_bool {a b : Bool} (h : a = b) : Ending.returned (.bool a) = .returned (.bool b) := by rw [h]
theorem int_eq {k : IntKind} {a b : Int} (h : a = b) : Value.int k a = .int k b := by rw [h]

theorem bcell {W w1 : World} (hb : Below W.heap.size W w1) : (∀ b o, b < W.heap.size → w1.cell? ⟨b, o, none⟩ = W.cell? ⟨b, o, none⟩) ∧ (∀ b o, b < W.heap.size → w1.frozen? ⟨b, o, none⟩ = W.frozen? ⟨b, o, none⟩) :=
  ⟨fun b o h => hb.cell (p := ⟨b, o, none⟩) h, fun b o h => hb.frozen (p := ⟨b, o, none⟩) h⟩

/-- a slice value whose cells read as a list: of whatever memory -/
def Reads (w : World) (v : Value) (xs : List Value) : Prop :=
  (∃ ad cap, v = .slice ad 0 cap ∧ xs = []) ∨ ∃ b off cap, v = .slice (some ⟨b, off, none⟩) xs.length cap ∧ b < w.heap.size ∧ xs.length ≤ maxLen ∧ ∀ t x, xs[t]? = some x → w.cell? ⟨b, off + t, none⟩ = some x

theorem Reads.below {w w' : World} {v : Value} {xs : List Value} (h : Reads w v xs) {B : Nat} (hB : w.heap.size ≤ B) (hb : Below B w w') : Reads w' v xs := by
  rcases h with h | ⟨b, off, cap, hv, hlt, hm, hc⟩
  · exact .inl h
  · exact .inr ⟨b, off, cap, hv, Nat.lt_of_lt_of_le hlt hb.size, hm, fun t x hx => (hb.cell (p := ⟨b, off + t, none⟩) (Nat.lt_of_lt_of_le hlt hB)).trans (hc t x hx)⟩

/-- what is owned reads -/
theorem Reads.of_owns {w : World} {base : Nat} {e : TypeId} {v : Value} {n : Nat} {xs : List Value} (h : w.ownsRow base e 1 v n xs) : Reads w v xs := by
  have hl : xs.length = n := by have := h.1; omega
  rcases h.2 with ⟨rfl, h0⟩ | ⟨g, cap, cur, rfl, hb, hg, hn, hm, hs, ht⟩
  · exact .inl ⟨none, 0, rfl, List.length_eq_zero_iff.1 (by omega)⟩
  · refine .inr ⟨g, 0, cap, by rw [hl], (Array.getElem?_eq_some_iff.1 hg).1, by omega, fun t x hx => ?_⟩
    have hc := World.ownsRow.cellAt h t (by have := (List.getElem?_eq_some_iff.1 hx).1; omega)
    rw [Nat.zero_add, hc, hx]

theorem owns_mono {w : World} {base base' : Nat} {e : TypeId} {sz : Nat} {v : Value} {n : Nat} {xs : List Value} (h : w.ownsRow base e sz v n xs) (hb : base' ≤ base) : w.ownsRow base' e sz v n xs := by
  refine ⟨h.1, ?_⟩
  rcases h.2 with h0 | ⟨g, cap, cur, hv, hbb, r⟩
  · exact .inl h0
  · exact .inr ⟨g, cap, cur, hv, by omega, r⟩

/-- owned by whoever ended at B: nothing below w's end has turned behind -/
theorem owns_below {w w' : World} {base : Nat} {e : TypeId} {sz : Nat} {v : Value} {n : Nat} {xs : List Value} (h : w.ownsRow base e sz v n xs) (hb : Below w.heap.size w w') : w'.ownsRow base e sz v n xs :=
  h.kept (row := none) ⟨hb.os, hb.tape, hb.output, hb.size, fun k hk _ => hb.block k hk⟩ (by cases hv : v.ownBlock <;> simp)

theorem below_of_grown {w w' : World} {base : Nat} {row : Option Nat} (hg : w.grownBy w' row) (hr : ∀ k, row = some k → base ≤ k) (hb : base ≤ w.heap.size) : Below base w w' :=
  (Below.refl base w).grown hg hb hr

/-- 'out = append(out, x)': one element more, whatever its size -/
theorem app1 {P : Program} {ops : Array Oper} {rest : List Oper} {o : Oper} {a : Act} {Q : Exit → Act → World → Prop} (w0 : World) (us : Array Value) (hgd : o.guard = none) (s x : Operand) (t : TypeId)
    (ho : o.op = .call { callee := .builtin .append, args := #[s, x], argTypes := #[t, t] })
    (base : Nat) (e : TypeId) (z : Value) (size bytes : Nat) (ht : P.underlying t = some (.slice e)) (hinfo : (P.info? e).map (fun i => (i.zero, i.size, i.bytes)) = some (some z, size, bytes))
    (hzs : z.cells.size = size) (hsz : 0 < size) (hby : 0 < bytes)
    (v : Value) (n : Nat) (xs : List Value) (hs : a.eval s = v) (hown : w0.ownsRow base e size v n xs)
    {z0 : Nat} (hx : a.eval x = .slice (some ⟨z0, 0, none⟩) 1 1) (hz0 : z0 = w0.heap.size) (hl : us.size = size) (h1 : ∀ u ∈ us.toList, u.oneCell' = true)
    (hbytes : (n + 1) * bytes ≤ 140737488355328) (hbase : base ≤ w0.heap.size)
    (h : ∀ v' w', w'.ownsRow base e size v' (n + 1) (xs ++ us.toList) → w0.grownBy w' v.ownBlock → Below base w0 w' → wpList P ops Q rest (a.put o.dst v') w') :
    wpList P ops Q (o :: rest) a (w0.alloc (.cells us e)) := by
  subst hz0
  obtain ⟨i, hi, hz0, hz1, hz2⟩ := info_parts hinfo
  have h63 : n + 1 ≤ maxLen := by
    have : (n + 1) * 1 ≤ (n + 1) * bytes := Nat.mul_le_mul_left _ hby
    unfold maxLen; omega
  refine wpList_append_own _ hgd s x t ho base e i z size bytes ht hi hz0 hz1 hz2 hzs hsz v n xs hs (hown.alloc _) ⟨w0.heap.size, 0, none⟩ 1 1 us.toList hx (by simp [hl]) ?_ h1 h63 hbytes (by simp; omega) ?_
  · intro j u hj
    have : (⟨w0.heap.size, 0, none⟩ : Addr).add j = ⟨w0.heap.size, j, none⟩ := by unfold Addr.add; split <;> simp_all
    rw [this, World.cell?_alloc_at _ _ _ _ rfl]
    simpa using hj
  · intro v' w' hown' hg _
    have hg0 : w0.grownBy w' v.ownBlock := by
      refine ⟨hg.os, hg.tape, hg.output, Nat.le_trans (by simp) hg.size, fun k hk hne => ?_⟩
      rw [hg.block k (by simp; omega) hne]
      exact Below.heap_alloc w0 _ k hk
    exact h v' w' hown' hg0 (below_of_grown hg0 (fun k hk => (hown.lt k hk).1) hbase)

theorem Reads.of_row {w : World} {k : IntKind} {a : Option Addr} {len cap : Nat} {zs : List Int}
    (h : (a = none ∧ len = 0 ∧ cap = 0 ∧ zs = []) ∨ ∃ x, a = some x ∧ len ≤ cap ∧ cap ≤ maxLen ∧ zs.length = cap ∧ (∀ i, i < zs.length → w.cell? (x.add i) = some (.int k (zs.getD i 0))) ∧ ∀ n ∈ zs, (Lit.int k n).wf = true) :
    Reads w (.slice a len cap) ((zs.take len).map (Value.int k)) ∧ (zs.take len).length = len ∧ ∀ n ∈ zs.take len, (Lit.int k n).wf = true := by
  rcases h with ⟨rfl, rfl, rfl, rfl⟩ | ⟨x, rfl, hl, hm, hz, hc, hw⟩
  · exact ⟨.inl ⟨_, _, rfl, rfl⟩, rfl, by simp⟩
  · have hlen : (zs.take len).length = len := by simp; omega
    refine ⟨?_, hlen, fun n hn => hw n (List.mem_of_mem_take hn)⟩
    by_cases h0 : len = 0
    · subst h0; exact .inl ⟨_, _, rfl, by simp⟩
    · obtain ⟨b, off, rfl, hc'⟩ := ints_at hc (by omega)
      refine .inr ⟨b, off, cap, by rw [List.length_map, hlen], World.block_lt_of_cell? w _ (hc' 0 (by omega)), by simp; omega, fun t u hu => ?_⟩
      have ht : t < len := by have := (List.getElem?_eq_some_iff.1 hu).1; simp at this; omega
      rw [hc' t (by omega)]
      simp only [List.getElem?_map, List.getElem?_take, ht, if_true] at hu
      rw [List.getD_eq_getElem?_getD]
      rw [List.getElem?_eq_getElem (by omega)] at hu ⊢
      simpa using hu

theorem owns_shape {w : World} {base : Nat} {e : TypeId} {sz : Nat} {v : Value} {n : Nat} {xs : List Value} (h : w.ownsRow base e sz v n xs) (hn : 0 < n) :
    ∃ g cap, v = .slice (some ⟨g, 0, none⟩) n cap ∧ base ≤ g ∧ g < w.heap.size := by
  rcases h.2 with ⟨_, h0⟩ | ⟨g, cap, cur, hv, hb, hg, _⟩
  · omega
  · exact ⟨g, cap, hv, hb, (Array.getElem?_eq_some_iff.1 hg).1⟩

theorem owns_len {w : World} {base : Nat} {e : TypeId} {sz : Nat} {v : Value} {n : Nat} {xs : List Value} (h : w.ownsRow base e sz v n xs) : ∃ ad cap, v = .slice ad n cap := by
  rcases h.2 with ⟨rfl, h0⟩ | ⟨g, cap, cur, rfl, _⟩
  · exact ⟨none, 0, by rw [h0]⟩
  · exact ⟨_, _, rfl⟩

end Go.Proofs.YtadjnfpomjopkaaGreat
