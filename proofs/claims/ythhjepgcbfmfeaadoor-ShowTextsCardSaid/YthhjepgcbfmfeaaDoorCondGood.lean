/- Plain: what is read lies within the tokens, and has no more items than tokens. -/
import Derived.Test.YthhjepgcbfmfeaaDoorCondPlain
namespace Go.Proofs.YthhjepgcbfmfeaaDoor
open Go.RowKit

def Good (T : List Tk) (one : Int → PR) : Prop := ∀ i o a, one i = .ok o a → 0 ≤ i ∧ i < a ∧ a ≤ T.length ∧ (o.length : Int) ≤ a - i

theorem tkAt_in {T : List Tk} {i : Int} (h : (tkAt T i).kind ≠ 5) : 0 ≤ i ∧ i < T.length := by
  unfold tkAt at h
  split at h
  · exact absurd rfl h
  · split at h
    · rename_i h1 x hx
      have := (List.getElem?_eq_some_iff.1 hx).1
      omega
    · exact absurd rfl h
theorem isTk_kind {T : List Tk} {i kind : Int} {s : ByteArray} (h : isTk T i kind s = true) : (tkAt T i).kind = kind := by
  unfold isTk at h
  simp only [Bool.and_eq_true, decide_eq_true_eq] at h
  exact h.1
theorem isTk_in {T : List Tk} {i kind : Int} {s : ByteArray} (h : isTk T i kind s = true) (hk : kind ≠ 5) : 0 ≤ i ∧ i < T.length :=
  tkAt_in (by rw [isTk_kind h]; exact hk)

theorem also_ok {p : PR} {f : List It → Int → PR} {o : List It} {a : Int} (h : p.also f = .ok o a) : ∃ o1 a1, p = .ok o1 a1 ∧ f o1 a1 = .ok o a := by
  cases p with
  | ok o1 a1 => exact ⟨o1, a1, rfl, h⟩
  | bad er l c => cases h
theorem need_ok {T : List Tk} {i kind : Int} {s : ByteArray} {f : Int → PR} {o : List It} {a : Int} (h : needP T i kind s f = .ok o a) : isTk T i kind s = true ∧ f (i + 1) = .ok o a := by
  unfold needP at h
  split at h
  · rename_i hq; exact ⟨hq, h⟩
  · cases h

theorem rowP_good {T : List Tk} {one : Int → PR} (h : Good T one) (wd : ByteArray) (op : Int) : ∀ (k : Nat) (i : Int) (out : List It) (o : List It) (a : Int), 0 ≤ i → i ≤ T.length → rowP T one wd op k i out = .ok o a → i ≤ a ∧ a ≤ T.length ∧ (o.length : Int) - out.length ≤ a - i
  | 0, i, out, o, a, _, _, he => by
    simp only [rowP, PR.ok.injEq] at he
    obtain ⟨rfl, rfl⟩ := he
    omega
  | k + 1, i, out, o, a, h0, h1, he => by
    rw [rowP] at he
    split at he
    · rename_i hq
      obtain ⟨o1, a1, he1, he2⟩ := also_ok he
      have g1 := h _ _ _ he1
      have g2 := rowP_good h wd op k _ _ _ _ (by omega) (by omega) he2
      simp only [List.length_append, List.length_cons, List.length_nil] at g2
      omega
    · simp only [PR.ok.injEq] at he
      obtain ⟨rfl, rfl⟩ := he
      omega
theorem rowsP_good {T : List Tk} {one : Int → PR} (h : Good T one) (wd : ByteArray) (op : Int) : Good T (rowsP T one wd op) := by
  intro i o a he
  obtain ⟨o1, a1, he1, he2⟩ := also_ok he
  have g1 := h _ _ _ he1
  have g2 := rowP_good h wd op _ _ _ _ _ (by omega) (by omega) he2
  omega

theorem comp_sign {T : List Tk} {i : Int} (h : compN T i ≠ 0) : (tkAt T i).kind = 4 := by
  unfold compN at h
  split at h
  · exact absurd rfl h
  · rename_i h1; omega
theorem isWord_kind {t : Tk} (h : isWord t = true) : t.kind ≠ 5 := by
  unfold isWord at h
  simp only [Bool.or_eq_true, decide_eq_true_eq] at h
  omega
theorem compP_good (T : List Tk) : Good T (compP T) := by
  intro i o a he
  unfold compP at he
  split at he
  · rename_i h1
    have g1 := tkAt_in (isWord_kind h1)
    split at he
    · cases he
    · split at he
      · rename_i h2 h3
        have g3 := tkAt_in (isWord_kind h3)
        simp only [PR.ok.injEq] at he
        obtain ⟨rfl, rfl⟩ := he
        simp only [List.length_cons, List.length_nil]
        omega
      · cases he
  · cases he
theorem namedP_good (T : List Tk) (i : Int) (op : Int) (o : List It) (a : Int) (he : namedP T i op = .ok o a) : i < a ∧ a ≤ T.length ∧ (o.length : Int) ≤ a - i := by
  unfold namedP at he
  split at he
  · rename_i h1
    have g1 := tkAt_in (T := T) (i := i + 1) (by omega)
    simp only [PR.ok.injEq] at he
    obtain ⟨rfl, rfl⟩ := he
    simp only [List.length_cons, List.length_nil]
    omega
  · cases he
theorem didP_good (T : List Tk) (i : Int) (o : List It) (a : Int) (he : didP T i = .ok o a) : i < a ∧ a ≤ T.length ∧ (o.length : Int) ≤ a - i := by
  unfold didP at he
  split at he
  · split at he
    · rename_i h1 h2
      have g1 := tkAt_in (T := T) (i := i + 2) (by omega)
      simp only [PR.ok.injEq] at he
      obtain ⟨rfl, rfl⟩ := he
      simp only [List.length_cons, List.length_nil]
      omega
    · cases he
  · cases he
theorem item_good {T : List Tk} {i : Int} {x : It} {o : List It} {a : Int} (hi : 0 ≤ i ∧ i < T.length) (he : PR.ok [x] (i + 1) = .ok o a) : i < a ∧ a ≤ T.length ∧ (o.length : Int) ≤ a - i := by
  simp only [PR.ok.injEq] at he
  obtain ⟨rfl, rfl⟩ := he
  simp only [List.length_cons, List.length_nil]
  omega
theorem atomP_good (T : List Tk) (prop : Bool) (i : Int) (o : List It) (a : Int) (hi : 0 ≤ i ∧ i < T.length) (he : atomP T prop i = .ok o a) : i < a ∧ a ≤ T.length ∧ (o.length : Int) ≤ a - i := by
  unfold atomP at he
  split at he
  · exact namedP_good _ _ _ _ _ he
  split at he
  · exact namedP_good _ _ _ _ _ he
  split at he
  · exact item_good hi he
  split at he
  · exact item_good hi he
  split at he
  · cases he
  split at he
  · exact namedP_good _ _ _ _ _ he
  split at he
  · exact didP_good _ _ _ _ he
  split at he
  · exact item_good hi he
  split at he
  · exact item_good hi he
  · cases he
theorem untilP_good {T : List Tk} {form : Int → PR} (h : Good T form) (op i : Int) (o : List It) (a : Int) (he : untilP T form op i = .ok o a) : i < a ∧ a ≤ T.length ∧ (o.length : Int) ≤ a - i := by
  unfold untilP at he
  obtain ⟨h1, he⟩ := need_ok he
  obtain ⟨o1, b, hf, he⟩ := also_ok he
  obtain ⟨h2, he⟩ := need_ok he
  obtain ⟨o2, d, hf2, he⟩ := also_ok he
  obtain ⟨h3, he⟩ := need_ok he
  have g1 := h _ _ _ hf
  have g2 := h _ _ _ hf2
  have g3 := isTk_in h3 (by decide)
  simp only [PR.ok.injEq] at he
  obtain ⟨rfl, rfl⟩ := he
  simp only [List.length_append, List.length_cons, List.length_nil]
  omega
theorem signP_good {T : List Tk} {prop : Bool} {sg form : Int → PR} (hs : Good T sg) (hf : Good T form) : Good T (signP T prop sg form) := by
  intro i o a he
  unfold signP at he
  split at he
  · rename_i h1
    have g0 := isTk_in h1 (by decide)
    obtain ⟨o1, b, h2, he⟩ := also_ok he
    obtain ⟨h3, he⟩ := need_ok he
    have g1 := hf _ _ _ h2
    have g3 := isTk_in h3 (by decide)
    simp only [PR.ok.injEq] at he
    obtain ⟨rfl, rfl⟩ := he
    omega
  split at he
  · exact compP_good T i o a he
  rename_i hk
  have g0 := tkAt_in (T := T) (i := i) (by omega)
  split at he
  · obtain ⟨o1, b, h2, he⟩ := also_ok he
    have g1 := hs _ _ _ h2
    simp only [PR.ok.injEq] at he
    obtain ⟨rfl, rfl⟩ := he
    simp only [List.length_append, List.length_cons, List.length_nil]
    omega
  split at he
  · cases he
  split at he
  · exact ⟨g0.1, untilP_good hf _ _ _ _ he⟩
  split at he
  · exact ⟨g0.1, untilP_good hf _ _ _ _ he⟩
  split at he
  · exact ⟨g0.1, atomP_good T prop i o a g0 he⟩
  · obtain ⟨o1, b, h2, he⟩ := also_ok he
    have g1 := hs _ _ _ h2
    simp only [PR.ok.injEq] at he
    obtain ⟨rfl, rfl⟩ := he
    simp only [List.length_append, List.length_cons, List.length_nil]
    omega
theorem formP_good {T : List Tk} {sg form : Int → PR} (hs : Good T sg) (hf : Good T form) : Good T (formP T sg form) := by
  intro i o a he
  unfold formP at he
  obtain ⟨o1, b, h1, he⟩ := also_ok he
  have g1 := rowsP_good (rowsP_good hs wAnd 16) wOr 17 _ _ _ h1
  split at he
  · obtain ⟨o2, c, h2, he⟩ := also_ok he
    have g2 := hf _ _ _ h2
    simp only [PR.ok.injEq] at he
    obtain ⟨rfl, rfl⟩ := he
    simp only [List.length_append, List.length_cons, List.length_nil]
    omega
  · simp only [PR.ok.injEq] at he
    obtain ⟨rfl, rfl⟩ := he
    omega
theorem both_good (T : List Tk) (prop : Bool) : ∀ n, Good T (bothP T prop n).1 ∧ Good T (bothP T prop n).2
  | 0 => ⟨fun i o a h => (by have h : badP T i 5 = .ok o a := h; cases h), fun i o a h => (by have h : badP T i 5 = .ok o a := h; cases h)⟩
  | n + 1 => by
    have ih := both_good T prop n
    have hs := signP_good (prop := prop) ih.1 ih.2
    exact ⟨hs, formP_good hs ih.2⟩

end Go.Proofs.YthhjepgcbfmfeaaDoor
