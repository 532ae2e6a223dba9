/- Plain: what is read is never empty. Plain: the last token that is read is not the end. Contract of cond.Whole. What Whole hands back, as a list of items. awake of warderlaw05. -/
import Derived.Test.YtignjhbajjephaaDoorCt07
import Derived.Test.YtignjhbajjephaaDoorCt10
import Derived.Test.YtignjhbajjephaaDoorCt37
import Derived.Test.YtignjhbajjephaaDoorCt02

namespace Go.Proofs.YtignjhbajjephaaDoor
open Go.RowKit

def Full (one : Int → PR) : Prop := ∀ i o a, one i = .ok o a → 0 < o.length

theorem rowP_full {T : List Tk} {one : Int → PR} (wd : ByteArray) (op : Int) : ∀ (k : Nat) (i : Int) (out : List It) (o : List It) (a : Int), 0 < out.length → rowP T one wd op k i out = .ok o a → 0 < o.length
  | 0, i, out, o, a, h0, he => by
    simp only [rowP, PR.ok.injEq] at he
    obtain ⟨rfl, rfl⟩ := he
    exact h0
  | k + 1, i, out, o, a, h0, he => by
    rw [rowP] at he
    split at he
    · obtain ⟨o1, a1, he1, he2⟩ := also_ok he
      exact rowP_full wd op k _ _ _ _ (by simp only [List.length_append, List.length_cons, List.length_nil]; omega) he2
    · simp only [PR.ok.injEq] at he
      obtain ⟨rfl, rfl⟩ := he
      exact h0
theorem rowsP_full {T : List Tk} {one : Int → PR} (h : Full one) (wd : ByteArray) (op : Int) : Full (rowsP T one wd op) := by
  intro i o a he
  obtain ⟨o1, a1, he1, he2⟩ := also_ok he
  exact rowP_full wd op _ _ _ _ _ (h _ _ _ he1) he2
theorem compP_full (T : List Tk) : Full (compP T) := by
  intro i o a he
  unfold compP at he
  split at he
  · split at he
    · cases he
    · split at he
      · simp only [PR.ok.injEq] at he; obtain ⟨rfl, rfl⟩ := he; simp
      · cases he
  · cases he
theorem namedP_full (T : List Tk) (i : Int) (op : Int) (o : List It) (a : Int) (he : namedP T i op = .ok o a) : 0 < o.length := by
  unfold namedP at he
  split at he
  · simp only [PR.ok.injEq] at he; obtain ⟨rfl, rfl⟩ := he; simp
  · cases he
theorem didP_full (T : List Tk) (i : Int) (o : List It) (a : Int) (he : didP T i = .ok o a) : 0 < o.length := by
  unfold didP at he
  split at he
  · split at he
    · simp only [PR.ok.injEq] at he; obtain ⟨rfl, rfl⟩ := he; simp
    · cases he
  · cases he
theorem one_full {x : It} {o : List It} {i a : Int} (he : PR.ok [x] i = .ok o a) : 0 < o.length := by
  simp only [PR.ok.injEq] at he; obtain ⟨rfl, rfl⟩ := he; simp
theorem atomP_full (T : List Tk) (prop : Bool) (i : Int) (o : List It) (a : Int) (he : atomP T prop i = .ok o a) : 0 < o.length := by
  unfold atomP at he
  split at he
  · exact namedP_full _ _ _ _ _ he
  split at he
  · exact namedP_full _ _ _ _ _ he
  split at he
  · exact one_full he
  split at he
  · exact one_full he
  split at he
  · cases he
  split at he
  · exact namedP_full _ _ _ _ _ he
  split at he
  · exact didP_full _ _ _ _ he
  split at he
  · exact one_full he
  split at he
  · exact one_full he
  · cases he
theorem untilP_full {T : List Tk} {form : Int → PR} (op i : Int) (o : List It) (a : Int) (he : untilP T form op i = .ok o a) : 0 < o.length := by
  unfold untilP at he
  obtain ⟨h1, he⟩ := need_ok he
  obtain ⟨o1, b, hf, he⟩ := also_ok he
  obtain ⟨h2, he⟩ := need_ok he
  obtain ⟨o2, d, hf2, he⟩ := also_ok he
  obtain ⟨h3, he⟩ := need_ok he
  simp only [PR.ok.injEq] at he
  obtain ⟨rfl, rfl⟩ := he
  simp only [List.length_append, List.length_cons, List.length_nil]; omega
theorem signP_full {T : List Tk} {prop : Bool} {sg form : Int → PR} (hf : Full form) : Full (signP T prop sg form) := by
  intro i o a he
  unfold signP at he
  split at he
  · obtain ⟨o1, b, h2, he⟩ := also_ok he
    obtain ⟨h3, he⟩ := need_ok he
    simp only [PR.ok.injEq] at he
    obtain ⟨rfl, rfl⟩ := he
    exact hf _ _ _ h2
  split at he
  · exact compP_full T i o a he
  split at he
  · obtain ⟨o1, b, h2, he⟩ := also_ok he
    simp only [PR.ok.injEq] at he
    obtain ⟨rfl, rfl⟩ := he
    simp only [List.length_append, List.length_cons, List.length_nil]; omega
  split at he
  · cases he
  split at he
  · exact untilP_full _ _ _ _ he
  split at he
  · exact untilP_full _ _ _ _ he
  split at he
  · exact atomP_full T prop i o a he
  · obtain ⟨o1, b, h2, he⟩ := also_ok he
    simp only [PR.ok.injEq] at he
    obtain ⟨rfl, rfl⟩ := he
    simp only [List.length_append, List.length_cons, List.length_nil]; omega
theorem formP_full {T : List Tk} {sg form : Int → PR} (hs : Full sg) : Full (formP T sg form) := by
  intro i o a he
  unfold formP at he
  obtain ⟨o1, b, h1, he⟩ := also_ok he
  split at he
  · obtain ⟨o2, c, h2, he⟩ := also_ok he
    simp only [PR.ok.injEq] at he
    obtain ⟨rfl, rfl⟩ := he
    simp only [List.length_append, List.length_cons, List.length_nil]; omega
  · simp only [PR.ok.injEq] at he
    obtain ⟨rfl, rfl⟩ := he
    exact rowsP_full (rowsP_full hs wAnd 16) wOr 17 _ _ _ h1
theorem both_full (T : List Tk) (prop : Bool) : ∀ n, Full (bothP T prop n).1 ∧ Full (bothP T prop n).2
  | 0 => ⟨fun i o a h => (by have h : badP T i 5 = .ok o a := h; cases h), fun i o a h => (by have h : badP T i 5 = .ok o a := h; cases h)⟩
  | n + 1 => by
    have ih := both_full T prop n
    have hs := signP_full (T := T) (prop := prop) (sg := (bothP T prop n).1) ih.2
    exact ⟨hs, formP_full hs⟩

end Go.Proofs.YtignjhbajjephaaDoor

namespace Go.Proofs.YtignjhbajjephaaDoor
open Go.RowKit

def Good2 (T : List Tk) (one : Int → PR) : Prop := ∀ i o a, one i = .ok o a → (tkAt T (a - 1)).kind ≠ 5
theorem last_of {T : List Tk} {i a : Int} (h : (tkAt T i).kind ≠ 5) (e : a - 1 = i) : (tkAt T (a - 1)).kind ≠ 5 := by rw [e]; exact h
theorem isTk_not {T : List Tk} {i kind : Int} {s : ByteArray} (h : isTk T i kind s = true) (hk : kind ≠ 5) : (tkAt T i).kind ≠ 5 := by rw [isTk_kind h]; exact hk
theorem rowP_good2 {T : List Tk} {one : Int → PR} (h : Good2 T one) (wd : ByteArray) (op : Int) : ∀ (k : Nat) (i : Int) (out : List It) (o : List It) (a : Int), (tkAt T (i - 1)).kind ≠ 5 → rowP T one wd op k i out = .ok o a → (tkAt T (a - 1)).kind ≠ 5
  | 0, i, out, o, a, h0, he => by
    simp only [rowP, PR.ok.injEq] at he
    obtain ⟨rfl, rfl⟩ := he
    exact h0
  | k + 1, i, out, o, a, h0, he => by
    rw [rowP] at he
    split at he
    · obtain ⟨o1, a1, he1, he2⟩ := also_ok he
      exact rowP_good2 h wd op k _ _ _ _ (h _ _ _ he1) he2
    · simp only [PR.ok.injEq] at he
      obtain ⟨rfl, rfl⟩ := he
      exact h0
theorem rowsP_good2 {T : List Tk} {one : Int → PR} (h : Good2 T one) (wd : ByteArray) (op : Int) : Good2 T (rowsP T one wd op) := by
  intro i o a he
  obtain ⟨o1, a1, he1, he2⟩ := also_ok he
  exact rowP_good2 h wd op _ _ _ _ _ (h _ _ _ he1) he2
theorem compP_good2 (T : List Tk) : Good2 T (compP T) := by
  intro i o a he
  unfold compP at he
  split at he
  · split at he
    · cases he
    · split at he
      · rename_i h2 h3
        simp only [PR.ok.injEq] at he
        obtain ⟨rfl, rfl⟩ := he
        exact last_of (isWord_kind h3) (by omega)
      · cases he
  · cases he
theorem namedP_good2 (T : List Tk) (i : Int) (op : Int) (o : List It) (a : Int) (he : namedP T i op = .ok o a) : (tkAt T (a - 1)).kind ≠ 5 := by
  unfold namedP at he
  split at he
  · rename_i h1
    simp only [PR.ok.injEq] at he
    obtain ⟨rfl, rfl⟩ := he
    exact last_of (i := i + 1) (by omega) (by omega)
  · cases he
theorem didP_good2 (T : List Tk) (i : Int) (o : List It) (a : Int) (he : didP T i = .ok o a) : (tkAt T (a - 1)).kind ≠ 5 := by
  unfold didP at he
  split at he
  · split at he
    · rename_i h1 h2
      simp only [PR.ok.injEq] at he
      obtain ⟨rfl, rfl⟩ := he
      exact last_of (i := i + 2) (by omega) (by omega)
    · cases he
  · cases he
theorem item_good2 {T : List Tk} {i : Int} {x : It} {o : List It} {a : Int} (hi : (tkAt T i).kind ≠ 5) (he : PR.ok [x] (i + 1) = .ok o a) : (tkAt T (a - 1)).kind ≠ 5 := by
  simp only [PR.ok.injEq] at he
  obtain ⟨rfl, rfl⟩ := he
  exact last_of hi (by omega)
theorem atomP_good2 (T : List Tk) (prop : Bool) (i : Int) (o : List It) (a : Int) (hi : (tkAt T i).kind ≠ 5) (he : atomP T prop i = .ok o a) : (tkAt T (a - 1)).kind ≠ 5 := by
  unfold atomP at he
  split at he
  · exact namedP_good2 _ _ _ _ _ he
  split at he
  · exact namedP_good2 _ _ _ _ _ he
  split at he
  · exact item_good2 hi he
  split at he
  · exact item_good2 hi he
  split at he
  · cases he
  split at he
  · exact namedP_good2 _ _ _ _ _ he
  split at he
  · exact didP_good2 _ _ _ _ he
  split at he
  · exact item_good2 hi he
  split at he
  · exact item_good2 hi he
  · cases he
theorem untilP_good2 {T : List Tk} {form : Int → PR} (op i : Int) (o : List It) (a : Int) (he : untilP T form op i = .ok o a) : (tkAt T (a - 1)).kind ≠ 5 := by
  unfold untilP at he
  obtain ⟨h1, he⟩ := need_ok he
  obtain ⟨o1, b, hf, he⟩ := also_ok he
  obtain ⟨h2, he⟩ := need_ok he
  obtain ⟨o2, d, hf2, he⟩ := also_ok he
  obtain ⟨h3, he⟩ := need_ok he
  simp only [PR.ok.injEq] at he
  obtain ⟨rfl, rfl⟩ := he
  exact last_of (isTk_not h3 (by decide)) (by omega)
theorem signP_good2 {T : List Tk} {prop : Bool} {sg form : Int → PR} (hs : Good2 T sg) : Good2 T (signP T prop sg form) := by
  intro i o a he
  unfold signP at he
  split at he
  · obtain ⟨o1, b, h2, he⟩ := also_ok he
    obtain ⟨h3, he⟩ := need_ok he
    simp only [PR.ok.injEq] at he
    obtain ⟨rfl, rfl⟩ := he
    exact last_of (isTk_not h3 (by decide)) (by omega)
  split at he
  · exact compP_good2 T i o a he
  rename_i hk
  have g0 : (tkAt T i).kind ≠ 5 := by omega
  split at he
  · obtain ⟨o1, b, h2, he⟩ := also_ok he
    simp only [PR.ok.injEq] at he
    obtain ⟨rfl, rfl⟩ := he
    exact hs _ _ _ h2
  split at he
  · cases he
  split at he
  · exact untilP_good2 _ _ _ _ he
  split at he
  · exact untilP_good2 _ _ _ _ he
  split at he
  · exact atomP_good2 T prop i o a g0 he
  · obtain ⟨o1, b, h2, he⟩ := also_ok he
    simp only [PR.ok.injEq] at he
    obtain ⟨rfl, rfl⟩ := he
    exact hs _ _ _ h2
theorem formP_good2 {T : List Tk} {sg form : Int → PR} (hs : Good2 T sg) (hf : Good2 T form) : Good2 T (formP T sg form) := by
  intro i o a he
  unfold formP at he
  obtain ⟨o1, b, h1, he⟩ := also_ok he
  have g1 := rowsP_good2 (rowsP_good2 hs wAnd 16) wOr 17 _ _ _ h1
  split at he
  · obtain ⟨o2, c, h2, he⟩ := also_ok he
    simp only [PR.ok.injEq] at he
    obtain ⟨rfl, rfl⟩ := he
    exact hf _ _ _ h2
  · simp only [PR.ok.injEq] at he
    obtain ⟨rfl, rfl⟩ := he
    exact g1
theorem both_good2 (T : List Tk) (prop : Bool) : ∀ n, Good2 T (bothP T prop n).1 ∧ Good2 T (bothP T prop n).2
  | 0 => ⟨fun i o a h => (by have h : badP T i 5 = .ok o a := h; cases h), fun i o a h => (by have h : badP T i 5 = .ok o a := h; cases h)⟩
  | n + 1 => by
    have ih := both_good2 T prop n
    have hs := signP_good2 (prop := prop) (form := (bothP T prop n).2) ih.1
    exact ⟨hs, formP_good2 hs ih.2⟩

/-- what is wrong has a number -/
def Good3 (one : Int → PR) : Prop := ∀ i e l c, one i = .bad e l c → e ≠ 0
theorem also_no {p : PR} {f : List It → Int → PR} {e l c : Int} (h : p.also f = .bad e l c) : p = .bad e l c ∨ ∃ o1 a1, p = .ok o1 a1 ∧ f o1 a1 = .bad e l c := by
  cases p with
  | ok o1 a1 => exact .inr ⟨o1, a1, rfl, h⟩
  | bad er l' c' => exact .inl h
theorem badP_no {T : List Tk} {i er e l c : Int} (h : badP T i er = .bad e l c) (h0 : er ≠ 0) : e ≠ 0 := by
  unfold badP at h
  simp only [PR.bad.injEq] at h
  omega
theorem need_no {T : List Tk} {i kind : Int} {s : ByteArray} {f : Int → PR} {e l c : Int} (h : needP T i kind s f = .bad e l c) : e ≠ 0 ∨ f (i + 1) = .bad e l c := by
  unfold needP at h
  split at h
  · exact .inr h
  · exact .inl (badP_no h (by decide))
theorem rowP_no {T : List Tk} {one : Int → PR} (h : Good3 one) (wd : ByteArray) (op : Int) : ∀ (k : Nat) (i : Int) (out : List It) (e l c : Int), rowP T one wd op k i out = .bad e l c → e ≠ 0
  | 0, i, out, e, l, c, he => by cases he
  | k + 1, i, out, e, l, c, he => by
    rw [rowP] at he
    split at he
    · rcases also_no he with he | ⟨o1, a1, _, he⟩
      · exact h _ _ _ _ he
      · exact rowP_no h wd op k _ _ _ _ _ he
    · cases he
theorem rowsP_no {T : List Tk} {one : Int → PR} (h : Good3 one) (wd : ByteArray) (op : Int) : Good3 (rowsP T one wd op) := by
  intro i e l c he
  rcases also_no he with he | ⟨o1, a1, _, he⟩
  · exact h _ _ _ _ he
  · exact rowP_no h wd op _ _ _ _ _ _ he
theorem compP_no (T : List Tk) : Good3 (compP T) := by
  intro i e l c he
  unfold compP at he
  repeat' split at he
  all_goals first | exact badP_no he (by decide) | cases he
theorem namedP_no (T : List Tk) (i op e l c : Int) (he : namedP T i op = .bad e l c) : e ≠ 0 := by
  unfold namedP at he
  split at he
  · cases he
  · exact badP_no he (by decide)
theorem didP_no (T : List Tk) (i e l c : Int) (he : didP T i = .bad e l c) : e ≠ 0 := by
  unfold didP at he
  repeat' split at he
  all_goals first | exact badP_no he (by decide) | cases he
theorem atomP_no (T : List Tk) (prop : Bool) (i e l c : Int) (he : atomP T prop i = .bad e l c) : e ≠ 0 := by
  unfold atomP at he
  repeat' split at he
  all_goals first | exact badP_no he (by decide) | exact namedP_no _ _ _ _ _ _ he | exact didP_no _ _ _ _ _ he | cases he
theorem untilP_no {T : List Tk} {form : Int → PR} (h : Good3 form) (op i e l c : Int) (he : untilP T form op i = .bad e l c) : e ≠ 0 := by
  unfold untilP at he
  rcases need_no he with he | he
  · exact he
  rcases also_no he with he | ⟨o1, a1, _, he⟩
  · exact h _ _ _ _ he
  rcases need_no he with he | he
  · exact he
  rcases also_no he with he | ⟨o2, a2, _, he⟩
  · exact h _ _ _ _ he
  rcases need_no he with he | he
  · exact he
  cases he
theorem signP_no {T : List Tk} {prop : Bool} {sg form : Int → PR} (hs : Good3 sg) (hf : Good3 form) : Good3 (signP T prop sg form) := by
  intro i e l c he
  unfold signP at he
  split at he
  · rcases also_no he with he | ⟨o1, a1, _, he⟩
    · exact hf _ _ _ _ he
    rcases need_no he with he | he
    · exact he
    cases he
  split at he
  · exact compP_no T i e l c he
  split at he
  · rcases also_no he with he | ⟨o1, a1, _, he⟩
    · exact hs _ _ _ _ he
    cases he
  split at he
  · exact badP_no he (by decide)
  split at he
  · exact untilP_no hf _ _ _ _ _ he
  split at he
  · exact untilP_no hf _ _ _ _ _ he
  split at he
  · exact atomP_no T prop i e l c he
  · rcases also_no he with he | ⟨o1, a1, _, he⟩
    · exact hs _ _ _ _ he
    cases he
theorem formP_no {T : List Tk} {sg form : Int → PR} (hs : Good3 sg) (hf : Good3 form) : Good3 (formP T sg form) := by
  intro i e l c he
  unfold formP at he
  rcases also_no he with he | ⟨o1, a1, _, he⟩
  · exact rowsP_no (rowsP_no hs wAnd 16) wOr 17 _ _ _ _ he
  split at he
  · rcases also_no he with he | ⟨o2, a2, _, he⟩
    · exact hf _ _ _ _ he
    cases he
  · cases he
theorem both_no (T : List Tk) (prop : Bool) : ∀ n, Good3 (bothP T prop n).1 ∧ Good3 (bothP T prop n).2
  | 0 => ⟨fun i e l c h => badP_no (show badP T i 5 = .bad e l c from h) (by decide), fun i e l c h => badP_no (show badP T i 5 = .bad e l c from h) (by decide)⟩
  | n + 1 => by
    have ih := both_no T prop n
    have hs := signP_no (T := T) (prop := prop) ih.1 ih.2
    exact ⟨hs, formP_no hs ih.2⟩

end Go.Proofs.YtignjhbajjephaaDoor

namespace Go.Proofs.YtignjhbajjephaaDoor
open Go.RowKit

theorem runT_cap (s : ByteArray) (L : List Rn) : ∀ (k i : Nat) (T : List Tk), T.length ≤ 4096 → (runT s L k i T).er = 0 → (runT s L k i T).T.length ≤ 4096
  | 0, i, T, hT, _ => hT
  | k + 1, i, T, hT, he => by
    rw [runT] at he ⊢
    split
    · rename_i hi
      rw [if_pos hi] at he
      split
      · rename_i h; rw [if_pos h] at he; exact absurd he h
      · rename_i h
        rw [if_neg h] at he
        exact runT_cap s L k _ _ (oneT_on s L i T hi hT (by omega)).2 he
    · exact hT

/-- tokens of a text that is right: the last one is the end -/
theorem tokRes_end (s : ByteArray) (h : (tokRes s).er = 0) : ∃ X, (tokRes s).T = X ++ [endTk s] ∧ X.length ≤ 4096 := by
  unfold tokRes at h ⊢
  split
  · rename_i h1; rw [if_pos h1] at h; simp at h
  · rename_i h1
    rw [if_neg h1] at h
    split
    · rename_i h2; rw [if_pos h2] at h; exact absurd h h2
    · rename_i h2
      exact ⟨_, rfl, runT_cap _ _ _ _ _ (by simp) (by omega)⟩

/-- what Whole says -/
def wholeP (s : ByteArray) (prop : Bool) : PR :=
  if (tokRes s).er ≠ 0 then .bad (tokRes s).er (tokRes s).line (tokRes s).col
  else match readP (tokRes s).T prop 0 with
    | .bad e l c => .bad e l c
    | .ok o a => if (tkAt (tokRes s).T a).kind = 5 then .ok o a else .bad 4 (tkAt (tokRes s).T a).line (tkAt (tokRes s).T a).col

def WholePost (w : World) (p : PR) (e : Ending) (w' : World) : Prop :=
  match p with
  | .ok o _ => ∃ v, e = .returned (.tuple #[v, .agg #[.int .i64 0, .int .i64 0, .int .i64 0]]) ∧ w'.ownsRow w.heap.size 41 9 v o.length (itFlat o) ∧ Below w.heap.size w w'
  | .bad er l c => e = .returned (.tuple #[.slice none 0 0, .agg #[.int .i64 er, .int .i64 l, .int .i64 c]]) ∧ Below w.heap.size w w'

theorem tkIn_owns {w : World} {base B : Nat} {v : Value} {T : List Tk} (h : w.ownsRow base 47 5 v T.length (tkFlat T)) (hB : w.heap.size ≤ B) (hT : T.length ≤ 1000000) : TkIn w B v T := by
  rcases h.2 with ⟨rfl, h0⟩ | ⟨g, cap, cur, rfl, hb, hg, _⟩
  · exact ⟨none, 0, by rw [h0], hT, .inl (List.length_eq_zero_iff.1 h0)⟩
  · have hlt := (Array.getElem?_eq_some_iff.1 hg).1
    refine ⟨_, cap, rfl, hT, .inr ⟨g, 0, rfl, by omega, hlt, fun k x hx => ?_⟩⟩
    have hk := (List.getElem?_eq_some_iff.1 hx).1
    have cell : ∀ j, j < 5 → w.cell? ⟨g, 0 + k * 5 + j, none⟩ = (tkCells x)[j]? := fun j hj => by
      rw [Nat.zero_add, World.ownsRow.cellAt h (k * 5 + j) (by omega), tkFlat_get T k j x hx hj]
    exact ⟨cell 0 (by omega), cell 1 (by omega), cell 2 (by omega), cell 3 (by omega), cell 4 (by omega)⟩

theorem readP_in {T : List Tk} {prop : Bool} {i : Int} {o : List It} {a : Int} (h : readP T prop i = .ok o a) : 0 ≤ i ∧ i < a ∧ a ≤ T.length ∧ (tkAt T (a - 1)).kind ≠ 5 := by
  unfold readP at h
  cases hp : (bothP T prop 25).2 i with
  | bad e l c => rw [hp] at h; cases h
  | ok o1 a1 =>
    rw [hp] at h
    dsimp only at h
    split at h
    · cases h
    · simp only [PR.ok.injEq] at h
      obtain ⟨rfl, rfl⟩ := h
      have g := (both_good T prop 25).2 _ _ _ hp
      exact ⟨g.1, g.2.1, g.2.2.1, (both_good2 T prop 25).2 _ _ _ hp⟩

theorem readP_no {T : List Tk} {prop : Bool} {i : Int} {e l c : Int} (h : readP T prop i = .bad e l c) : e ≠ 0 := by
  unfold readP at h
  cases hp : (bothP T prop 25).2 i with
  | bad e1 l1 c1 => rw [hp] at h; simp only [PR.bad.injEq] at h; have := (both_no T prop 25).2 _ _ _ _ hp; omega
  | ok o1 a1 =>
    rw [hp] at h
    dsimp only at h
    split at h
    · simp only [PR.bad.injEq] at h; omega
    · cases h

set_option maxRecDepth 100000 in
set_option maxHeartbeats 4000000 in
theorem whole_any (s : ByteArray) (prop : Bool) (w : World) (hm : MaxCell w) (hs : s.size ≤ 4294967200) :
    Calls Tryd.prog 10 #[.string s, .bool prop] w (WholePost w (wholeP s prop)) := by
  have HZ : 0 < w.heap.size := by obtain ⟨m, hm⟩ := hm; exact World.block_lt_of_cell? w _ hm
  have hm0 := hm.below ((Below.refl w.heap.size w).alloc (Nat.le_refl _) (.cells #[.int .i64 0, .int .i64 0, .int .i64 0] 29)) HZ
  have HTK := Lib.hid (tokens_any s _ hm0 hs)
  have HF0 : FtB (w.alloc (.cells #[.int .i64 0, .int .i64 0, .int .i64 0] 29)) w.heap.size 0 0 0 := heap_alloc_new w _
  have hb0 : Below w.heap.size w (w.alloc (.cells #[.int .i64 0, .int .i64 0, .int .i64 0] 29)) := (Below.refl _ w).alloc (Nat.le_refl _) _
  have hsz0 : (w.alloc (.cells #[.int .i64 0, .int .i64 0, .int .i64 0] 29)).heap.size = w.heap.size + 1 := by simp
  obtain ⟨er, her⟩ : ∃ e, (tokRes s).er = e := ⟨_, rfl⟩
  obtain ⟨tl, htl⟩ : ∃ e, (tokRes s).line = e := ⟨_, rfl⟩
  obtain ⟨tc, htc⟩ : ∃ e, (tokRes s).col = e := ⟨_, rfl⟩
  have HER := Lib.hid her; have HTL := Lib.hid htl; have HTC := Lib.hid htc
  have HF0 := Lib.hid HF0; have HB0 := Lib.hid hb0; have HS0 := Lib.hid hsz0
  clear hm hm0 hb0 hsz0 htl htc
  by_cases h0 : er = 0
  · subst h0
    obtain ⟨X, hX, hXl⟩ := tokRes_end s her
    obtain ⟨T, hT⟩ : ∃ T, (tokRes s).T = T := ⟨_, rfl⟩
    have HT := Lib.hid hT
    have hTl : T.length ≤ 1000000 := by rw [← hT, hX]; simp; omega
    have hEnd : ∀ a : Int, (tkAt T (a - 1)).kind ≠ 5 → 0 < a → a ≤ T.length → a < T.length := by
      intro a h1 h2 h3
      refine Classical.byContradiction fun h4 => h1 ?_
      have e : a - 1 = ((X.length : Nat) : Int) := by rw [← hT, hX] at h3 h4; simp at h3 h4; omega
      have : T[X.length]? = some (endTk s) := by rw [← hT, hX]; simp
      rw [e, tkAt_some this]; rfl
    have HEND := Lib.hid hEnd
    have HTP := Lib.hid (show 0 < T.length by rw [← hT, hX]; simp)
    have HTL6 := Lib.hid hTl
    have HU : Hid (wholeP s prop = match readP T prop 0 with
      | .bad e l c => .bad e l c
      | .ok o a => if (tkAt T a).kind = 5 then .ok o a else .bad 4 (tkAt T a).line (tkAt T a).col) := by unfold Hid wholeP; rw [if_neg (by omega), hT]
    clear hX hXl hEnd hT her
    cases hp : readP T prop 0 with
    | bad e l c =>
      have hne := readP_no hp
      have hneb : (e != 0) = true := by simpa using hne
      have HP := Lib.hid hp
      unfold Hid at HU
      rw [hp] at HU
      replace HU := Lib.hid HU
      clear hp hne
      go_enter Tryd.func10, Tryd.ntmps10
      go_wp2_with fail
      refine HTK.out.mono ?_
      rintro en w1 ⟨v, rfl, hown, hb1⟩
      rw [HT.out] at hown
      rw [HER.out, faultV_ok]
      obtain ⟨g, cap, hv, hg, hgs⟩ := owns_shape hown HTP.out
      rw [HS0.out] at hg
      subst hv
      have hf1 := (HF0.out.below hb1).alloc (.cells #[.int .i64 0, .int .i64 0, .int .i64 0] 29)
      have hf7 : FtB (w1.alloc (.cells #[.int .i64 0, .int .i64 0, .int .i64 0] 29)) w1.heap.size 0 0 0 := heap_alloc_new w1 _
      have hal := (Below.refl w1.heap.size w1).alloc (Nat.le_refl _) (.cells #[.int .i64 0, .int .i64 0, .int .i64 0] 29)
      have HOW := Lib.hid (hown.alloc (.cells #[.int .i64 0, .int .i64 0, .int .i64 0] 29))
      have HBB := Lib.hid ((HB0.out.trans (hb1.mono HB0.out.size)).trans (hal.mono (Nat.le_trans HB0.out.size hb1.size)))
      have hlt := (HF0.out.below hb1).lt
      have F1 := Lib.hid hf1; have F7 := Lib.hid hf7
      have hs1 := hb1.size
      rw [HS0.out] at hs1
      clear hown hb1 hf1 hf7 hal
      go_wp2_with fail
      refine (read_any (tkIn_owns HOW.out (Nat.le_refl _) HTL6.out) 0 prop (by omega) (by omega)).mono ?_
      rw [HP.out]
      rintro en w2 ⟨rfl, hb2⟩
      have f5 := F1.out.below hb2
      have f7 := F7.out.below hb2
      obtain ⟨q0, q1, q2⟩ := f5.facts
      obtain ⟨z0, z1, z2⟩ := f5.free
      obtain ⟨p0, p1, p2⟩ := f7.facts
      obtain ⟨y0, y1, y2⟩ := f7.free
      have hl5 := f5.lt
      have hl7 := f7.lt
      have HB2 := Lib.hid (HBB.out.trans (hb2.mono HBB.out.size))
      clear f5 f7 hb2
      go_wp2
      go_region
      go_wp2
      refine bodyPost_ret (v := .tuple #[.slice none 0 0, .agg #[.int .i64 e, .int .i64 l, .int .i64 c]]) (by simp [results, Tryd.results10, go_sem, q0, q1, q2]) rfl ?_
      rw [HU.out]
      exact ⟨rfl, (below_fault (below_fault HB2.out (by omega) _ _ _) (Nat.le_refl _) _ _ _).drew⟩
    | ok o a =>
      have hin := readP_in hp
      have haT := HEND.out a hin.2.2.2 (by omega) hin.2.2.1
      obtain ⟨ka, hka⟩ : ∃ ka : Nat, a = ka := ⟨a.toNat, by omega⟩
      subst hka
      have hkT : ka < T.length := by omega
      obtain ⟨y, hy⟩ : ∃ y, T[ka]? = some y := ⟨_, List.getElem?_eq_getElem hkT⟩
      have HY := Lib.hid hy
      have HYA := Lib.hid (tkAt_some hy)
      have HP := Lib.hid hp
      unfold Hid at HU
      rw [hp] at HU
      dsimp only at HU
      rw [HYA.out] at HU
      replace HU := Lib.hid HU
      have hkz : (ka : Int) < (T.length : Int) := by omega
      have hkz0 : (0 : Int) ≤ (ka : Int) := by omega
      clear hp hin haT hy
      by_cases h5 : y.kind = 5
      · have h5b : (y.kind != 5) = false := by simp [h5]
        have HU : Hid (wholeP s prop = .ok o ka) := by unfold Hid; rw [HU.out, if_pos h5]
        clear h5
        go_enter Tryd.func10, Tryd.ntmps10
        go_wp2_with fail
        refine HTK.out.mono ?_
        rintro en w1 ⟨v, rfl, hown, hb1⟩
        rw [HT.out] at hown
        rw [HER.out, faultV_ok]
        obtain ⟨g, cap, hv, hg, hgs⟩ := owns_shape hown HTP.out
        rw [HS0.out] at hg
        subst hv
        have hf1 := (HF0.out.below hb1).alloc (.cells #[.int .i64 0, .int .i64 0, .int .i64 0] 29)
        have hf7 : FtB (w1.alloc (.cells #[.int .i64 0, .int .i64 0, .int .i64 0] 29)) w1.heap.size 0 0 0 := heap_alloc_new w1 _
        have hal := (Below.refl w1.heap.size w1).alloc (Nat.le_refl _) (.cells #[.int .i64 0, .int .i64 0, .int .i64 0] 29)
        have HOW := Lib.hid (hown.alloc (.cells #[.int .i64 0, .int .i64 0, .int .i64 0] 29))
        have HBB := Lib.hid ((HB0.out.trans (hb1.mono HB0.out.size)).trans (hal.mono (Nat.le_trans HB0.out.size hb1.size)))
        have hlt := (HF0.out.below hb1).lt
        have F1 := Lib.hid hf1; have F7 := Lib.hid hf7
        have hs1 := hb1.size
        rw [HS0.out] at hs1
        clear hown hb1 hf1 hf7 hal
        go_wp2_with fail
        refine (read_any (tkIn_owns HOW.out (Nat.le_refl _) HTL6.out) 0 prop (by omega) (by omega)).mono ?_
        rw [HP.out]
        rintro en w2 ⟨v2, rfl, hown2, hb2⟩
        obtain ⟨ad2, cap2, rfl⟩ := owns_len hown2
        have f5 := F1.out.below hb2
        have f7 := F7.out.below hb2
        obtain ⟨q0, q1, q2⟩ := f5.facts
        obtain ⟨z0, z1, z2⟩ := f5.free
        obtain ⟨p0, p1, p2⟩ := f7.facts
        obtain ⟨y0, y1, y2⟩ := f7.free
        have hl5 := f5.lt
        have hl7 := f7.lt
        have ho2 := owns_below HOW.out hb2
        have hgl : g < w2.heap.size := (ho2.lt g rfl).2
        have cell : ∀ j, j < 5 → w2.cell? ⟨g, ka * 5 + j, none⟩ = (tkCells y)[j]? := fun j hj => by
          rw [World.ownsRow.cellAt ho2 (ka * 5 + j) (by omega), tkFlat_get T ka j y HY.out hj]
        have d0 := cell 0 (by omega); have d1 := cell 1 (by omega); have d2 := cell 2 (by omega); have d3 := cell 3 (by omega); have d4 := cell 4 (by omega)
        simp only [tkCells, List.getElem?_cons_zero, List.getElem?_cons_succ, Nat.add_zero] at d0 d1 d2 d3 d4
        have hg1 : g ≠ w.heap.size := by have := hg; omega
        have hg7 : g ≠ w1.heap.size := by have := hgs; omega
        have HB2 := Lib.hid (HBB.out.trans (hb2.mono HBB.out.size))
        have HO2 := Lib.hid hown2
        have F52 := Lib.hid f5; have F72 := Lib.hid f7
        clear f5 f7 hb2 ho2 cell hown2
        have hne57 : w.heap.size ≠ w1.heap.size := by omega
        have OWN := Lib.hid ((FtB.row (F52.out.over hne57 (.int .i64 0) (.int .i64 0) (.int .i64 0)) (F72.out.row HO2.out (by decide) 0 0 0) (by decide) 0 0 0).alloc (.cells #[.int .i64 y.kind, .string y.text, .int .i64 y.num, .int .i64 y.line, .int .i64 y.col] 47))
        have BEL := Lib.hid ((below_fault (below_fault HB2.out (show w.heap.size ≤ w1.heap.size by omega) (.int .i64 0) (.int .i64 0) (.int .i64 0)) (Nat.le_refl _) (.int .i64 0) (.int .i64 0) (.int .i64 0)).alloc (by simp; omega) (.cells #[.int .i64 y.kind, .string y.text, .int .i64 y.num, .int .i64 y.line, .int .i64 y.col] 47))
        have HE := Lib.hid (((F52.out.over hne57 (.int .i64 0) (.int .i64 0) (.int .i64 0)).stored 0 0 0).alloc (.cells #[.int .i64 y.kind, .string y.text, .int .i64 y.num, .int .i64 y.line, .int .i64 y.col] 47)).facts
        go_wp2
        obtain ⟨e0, e1, e2⟩ := HE.out
        refine bodyPost_ret (v := .tuple #[.slice ad2 o.length cap2, .agg #[.int .i64 0, .int .i64 0, .int .i64 0]]) (by simp [results, Tryd.results10, go_sem, e0, e1, e2]) rfl ?_
        rw [HU.out]
        exact ⟨_, rfl, owns_mono OWN.out (by simp; omega), BEL.out⟩
      · have h5b : (y.kind != 5) = true := by simpa using h5
        have HU : Hid (wholeP s prop = .bad 4 y.line y.col) := by unfold Hid; rw [HU.out, if_neg h5]
        clear h5
        go_enter Tryd.func10, Tryd.ntmps10
        go_wp2_with fail
        refine HTK.out.mono ?_
        rintro en w1 ⟨v, rfl, hown, hb1⟩
        rw [HT.out] at hown
        rw [HER.out, faultV_ok]
        obtain ⟨g, cap, hv, hg, hgs⟩ := owns_shape hown HTP.out
        rw [HS0.out] at hg
        subst hv
        have hf1 := (HF0.out.below hb1).alloc (.cells #[.int .i64 0, .int .i64 0, .int .i64 0] 29)
        have hf7 : FtB (w1.alloc (.cells #[.int .i64 0, .int .i64 0, .int .i64 0] 29)) w1.heap.size 0 0 0 := heap_alloc_new w1 _
        have hal := (Below.refl w1.heap.size w1).alloc (Nat.le_refl _) (.cells #[.int .i64 0, .int .i64 0, .int .i64 0] 29)
        have HOW := Lib.hid (hown.alloc (.cells #[.int .i64 0, .int .i64 0, .int .i64 0] 29))
        have HBB := Lib.hid ((HB0.out.trans (hb1.mono HB0.out.size)).trans (hal.mono (Nat.le_trans HB0.out.size hb1.size)))
        have hlt := (HF0.out.below hb1).lt
        have F1 := Lib.hid hf1; have F7 := Lib.hid hf7
        have hs1 := hb1.size
        rw [HS0.out] at hs1
        clear hown hb1 hf1 hf7 hal
        go_wp2_with fail
        refine (read_any (tkIn_owns HOW.out (Nat.le_refl _) HTL6.out) 0 prop (by omega) (by omega)).mono ?_
        rw [HP.out]
        rintro en w2 ⟨v2, rfl, hown2, hb2⟩
        obtain ⟨ad2, cap2, rfl⟩ := owns_len hown2
        have f5 := F1.out.below hb2
        have f7 := F7.out.below hb2
        obtain ⟨q0, q1, q2⟩ := f5.facts
        obtain ⟨z0, z1, z2⟩ := f5.free
        obtain ⟨p0, p1, p2⟩ := f7.facts
        obtain ⟨y0, y1, y2⟩ := f7.free
        have hl5 := f5.lt
        have hl7 := f7.lt
        have ho2 := owns_below HOW.out hb2
        have hgl : g < w2.heap.size := (ho2.lt g rfl).2
        have cell : ∀ j, j < 5 → w2.cell? ⟨g, ka * 5 + j, none⟩ = (tkCells y)[j]? := fun j hj => by
          rw [World.ownsRow.cellAt ho2 (ka * 5 + j) (by omega), tkFlat_get T ka j y HY.out hj]
        have d0 := cell 0 (by omega); have d1 := cell 1 (by omega); have d2 := cell 2 (by omega); have d3 := cell 3 (by omega); have d4 := cell 4 (by omega)
        simp only [tkCells, List.getElem?_cons_zero, List.getElem?_cons_succ, Nat.add_zero] at d0 d1 d2 d3 d4
        have hg1 : g ≠ w.heap.size := by have := hg; omega
        have hg7 : g ≠ w1.heap.size := by have := hgs; omega
        have HB2 := Lib.hid (HBB.out.trans (hb2.mono HBB.out.size))
        have HO2 := Lib.hid hown2
        have F52 := Lib.hid f5; have F72 := Lib.hid f7
        clear f5 f7 hb2 ho2 cell hown2
        have hne57 : w.heap.size ≠ w1.heap.size := by omega
        have OWN := Lib.hid ((FtB.row (F52.out.over hne57 (.int .i64 0) (.int .i64 0) (.int .i64 0)) (F72.out.row HO2.out (by decide) 0 0 0) (by decide) 4 y.line y.col).alloc (.cells #[.int .i64 y.kind, .string y.text, .int .i64 y.num, .int .i64 y.line, .int .i64 y.col] 47))
        have BEL := Lib.hid ((below_fault (below_fault HB2.out (show w.heap.size ≤ w1.heap.size by omega) (.int .i64 0) (.int .i64 0) (.int .i64 0)) (Nat.le_refl _) (.int .i64 4) (.int .i64 y.line) (.int .i64 y.col)).alloc (by simp; omega) (.cells #[.int .i64 y.kind, .string y.text, .int .i64 y.num, .int .i64 y.line, .int .i64 y.col] 47))
        have HE := Lib.hid (((F52.out.over hne57 (.int .i64 0) (.int .i64 0) (.int .i64 0)).stored 4 y.line y.col).alloc (.cells #[.int .i64 y.kind, .string y.text, .int .i64 y.num, .int .i64 y.line, .int .i64 y.col] 47)).facts
        go_wp2
        go_region
        go_wp2
        obtain ⟨e0, e1, e2⟩ := HE.out
        refine bodyPost_ret (v := .tuple #[.slice none 0 0, .agg #[.int .i64 4, .int .i64 y.line, .int .i64 y.col]]) (by simp [results, Tryd.results10, go_sem, e0, e1, e2]) rfl ?_
        rw [HU.out]
        exact ⟨rfl, BEL.out.drew⟩
  · have HE0 := Lib.hid h0
    have HU : Hid (wholeP s prop = .bad er tl tc) := by unfold Hid wholeP; rw [HER.out, if_pos h0, HTL.out, HTC.out]
    have hne : (er != 0) = true := by simpa using h0
    clear h0 her
    go_enter Tryd.func10, Tryd.ntmps10
    go_wp2_with fail
    refine HTK.out.mono ?_
    rintro en w1 ⟨v, rfl, hown, hb1⟩
    rw [HER.out, HTL.out, HTC.out, faultV_no HE0.out]
    have hf1 := HF0.out.below hb1
    obtain ⟨q0, q1, q2⟩ := hf1.facts
    obtain ⟨z0, z1, z2⟩ := hf1.free
    have hlt1 := hf1.lt
    have HBB := Lib.hid (HB0.out.trans (hb1.mono HB0.out.size))
    have HE := Lib.hid ((hf1.stored er tl tc).alloc (.cells #[.int .i64 er, .int .i64 tl, .int .i64 tc] 29)).facts
    clear hown hb1 hf1
    go_wp2
    go_region
    go_wp2
    obtain ⟨e0, e1, e2⟩ := HE.out
    refine bodyPost_ret (v := .tuple #[.slice none 0 0, .agg #[.int .i64 er, .int .i64 tl, .int .i64 tc]]) (by simp [results, Tryd.results10, go_sem, e0, e1, e2]) rfl ?_
    rw [HU.out]
    exact ⟨rfl, ((below_fault HBB.out (Nat.le_refl _) _ _ _).alloc (by have := HBB.out.size; simp; omega) _).drew⟩

end Go.Proofs.YtignjhbajjephaaDoor

namespace Go.Proofs.YtignjhbajjephaaDoor
open Go.RowKit

theorem FtB.drewN {w : World} {b : Nat} {e l c : Int} (h : FtB w b e l c) (n : Nat) : FtB (w.drewN n) b e l c := h

end Go.Proofs.YtignjhbajjephaaDoor

namespace Go.Proofs.YtignjhbajjephaaDoor
open Go.RowKit

/-- "not a < 3 and open s" -/
def awakeT : ByteArray := ⟨#[110, 111, 116, 32, 97, 32, 60, 32, 51, 32, 97, 110, 100, 32, 111, 112, 101, 110, 32, 115]⟩
theorem awakeT_tok : tokRes awakeT = ⟨0, 0, 0, 0, [⟨2, ⟨#[110, 111, 116]⟩, 0, 1, 1⟩, ⟨1, ⟨#[97]⟩, 0, 1, 5⟩, ⟨4, ⟨#[60]⟩, 0, 1, 7⟩, ⟨3, ⟨#[51]⟩, 3, 1, 9⟩, ⟨2, ⟨#[97, 110, 100]⟩, 0, 1, 11⟩, ⟨2, ⟨#[111, 112, 101, 110]⟩, 0, 1, 15⟩, ⟨1, ⟨#[115]⟩, 0, 1, 20⟩, ⟨5, ⟨#[]⟩, 0, 1, 21⟩]⟩ := by kernel_rfl
theorem awakeT_whole : wholeP awakeT false = .ok [⟨3, ⟨#[97]⟩, 0, ⟨#[]⟩, 3, ⟨#[]⟩, ⟨#[]⟩, 1, 5⟩, ⟨15, ⟨#[]⟩, 0, ⟨#[]⟩, 0, ⟨#[]⟩, ⟨#[]⟩, 1, 1⟩, ⟨9, ⟨#[]⟩, 0, ⟨#[]⟩, 0, ⟨#[115]⟩, ⟨#[]⟩, 1, 20⟩, ⟨16, ⟨#[]⟩, 0, ⟨#[]⟩, 0, ⟨#[]⟩, ⟨#[]⟩, 1, 11⟩] 7 := by
  unfold wholeP
  rw [awakeT_tok]
  kernel_rfl

set_option maxHeartbeats 2000000 in
theorem awake05 (w : World) (hm : MaxCell w) :
    Calls Tryd.prog 6 #[] w fun e w' => e = .returned (.bool true) ∧ Below w.heap.size w w' := by
  have HW := Lib.hid (whole_any awakeT false w hm (by decide))
  have HA := Lib.hid awakeT_whole
  go_enter Tryd.func6, Tryd.ntmps6
  go_wp2_with fail
  refine HW.out.mono ?_
  rw [HA.out]
  rintro e w1 ⟨v, rfl, hown, hb1⟩
  simp only [List.length_cons, List.length_nil, Nat.zero_add, Nat.reduceAdd] at hown
  obtain ⟨g, cap, rfl, hg, hgs⟩ := owns_shape hown (by omega)
  have c0 := World.ownsRow.cellAt hown 0 (by omega)
  have c9 := World.ownsRow.cellAt hown 9 (by omega)
  have c23 := World.ownsRow.cellAt hown 23 (by omega)
  have c27 := World.ownsRow.cellAt hown 27 (by omega)
  have HB := Lib.hid hb1
  clear hown hb1
  simp only [itFlat, itCells, List.flatMap_cons, List.flatMap_nil, List.cons_append, List.nil_append, List.append_nil, List.getElem?_cons_zero, List.getElem?_cons_succ] at c0 c9 c23 c27
  go_wp2
  go_ret
  exact ⟨rfl, HB.out.alloc HB.out.size _⟩

end Go.Proofs.YtignjhbajjephaaDoor
