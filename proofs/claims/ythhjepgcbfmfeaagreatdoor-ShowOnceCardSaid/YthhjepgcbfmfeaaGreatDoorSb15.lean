/- Plain: the last token that is read is not the end. Contract of warderref04.Exact, for two lists of the same items. Small lemmas on rows and stores beside them: of any program. (Light: no text of the tokens is wanted.) -/
import Derived.Test.YthhjepgcbfmfeaaGreatDoorSb12
import Derived.Test.YthhjepgcbfmfeaaGreatDoorSb11
import Derived.Test.YthhjepgcbfmfeaaGreatDoorSb01
import Derived.Lib.OthersKept
import Derived.Deep.RegionHeld3
import Derived.Deep.AppendLies
import Derived.Deep.RegionLaw
import Derived.BigRegion

namespace Go.Proofs.YthhjepgcbfmfeaaGreatDoor
open Go.RowKit

def Good2 (T : List Tk) (one : Int → PR) : Prop := ∀ i o a, one i = .ok o a → (tkAt T (a - 1)).kind ≠ 5
theorem last_of {T : List Tk} {i a : Int} (h : (tkAt T i).kind ≠ 5) (e : a - 1 = i) : (tkAt T (a - 1)).kind ≠ 5 := by rw [e]; exact h
theorem isTk_not {T : List Tk} {i kind : Int} {s : ByteArray} (h : isTk T i kind s = true) (hk : kind ≠ 5) : (tkAt T i).kind ≠ 5 := by rw [isTk_kind h]; exact hk
theorem rowP_good2 {T : List Tk} {one : Int → PR} (h : Good2 T one) (wd : ByteArray) (op : Int) : ∀ (k : Nat) (i : Int) (out : List It) (o : List It) (a : Int), (tkAt T (i - 1)).kind ≠ 5 → rowP T one wd op k i out = .ok o a → (tkAt T (a - 1)).kind ≠ 5
  | 0, i, out, o, a, h0, he => by
    simp only [rowP, PR.ok.injEq] at he
    obtain ⟨rfl, rfl⟩ := he
    exact h0
  | k + 1, i, out, o, a, h0, he => by
    rw [rowP] at he
    split at he
    · obtain ⟨o1, a1, he1, he2⟩ := also_ok he
      exact rowP_good2 h wd op k _ _ _ _ (h _ _ _ he1) he2
    · simp only [PR.ok.injEq] at he
      obtain ⟨rfl, rfl⟩ := he
      exact h0
theorem rowsP_good2 {T : List Tk} {one : Int → PR} (h : Good2 T one) (wd : ByteArray) (op : Int) : Good2 T (rowsP T one wd op) := by
  intro i o a he
  obtain ⟨o1, a1, he1, he2⟩ := also_ok he
  exact rowP_good2 h wd op _ _ _ _ _ (h _ _ _ he1) he2
theorem compP_good2 (T : List Tk) : Good2 T (compP T) := by
  intro i o a he
  unfold compP at he
  split at he
  · split at he
    · cases he
    · split at he
      · rename_i h2 h3
        simp only [PR.ok.injEq] at he
        obtain ⟨rfl, rfl⟩ := he
        exact last_of (isWord_kind h3) (by omega)
      · cases he
  · cases he
theorem namedP_good2 (T : List Tk) (i : Int) (op : Int) (o : List It) (a : Int) (he : namedP T i op = .ok o a) : (tkAt T (a - 1)).kind ≠ 5 := by
  unfold namedP at he
  split at he
  · rename_i h1
    simp only [PR.ok.injEq] at he
    obtain ⟨rfl, rfl⟩ := he
    exact last_of (i := i + 1) (by omega) (by omega)
  · cases he
theorem didP_good2 (T : List Tk) (i : Int) (o : List It) (a : Int) (he : didP T i = .ok o a) : (tkAt T (a - 1)).kind ≠ 5 := by
  unfold didP at he
  split at he
  · split at he
    · rename_i h1 h2
      simp only [PR.ok.injEq] at he
      obtain ⟨rfl, rfl⟩ := he
      exact last_of (i := i + 2) (by omega) (by omega)
    · cases he
  · cases he
theorem item_good2 {T : List Tk} {i : Int} {x : It} {o : List It} {a : Int} (hi : (tkAt T i).kind ≠ 5) (he : PR.ok [x] (i + 1) = .ok o a) : (tkAt T (a - 1)).kind ≠ 5 := by
  simp only [PR.ok.injEq] at he
  obtain ⟨rfl, rfl⟩ := he
  exact last_of hi (by omega)
theorem atomP_good2 (T : List Tk) (prop : Bool) (i : Int) (o : List It) (a : Int) (hi : (tkAt T i).kind ≠ 5) (he : atomP T prop i = .ok o a) : (tkAt T (a - 1)).kind ≠ 5 := by
  unfold atomP at he
  split at he
  · exact namedP_good2 _ _ _ _ _ he
  split at he
  · exact namedP_good2 _ _ _ _ _ he
  split at he
  · exact item_good2 hi he
  split at he
  · exact item_good2 hi he
  split at he
  · cases he
  split at he
  · exact namedP_good2 _ _ _ _ _ he
  split at he
  · exact didP_good2 _ _ _ _ he
  split at he
  · exact item_good2 hi he
  split at he
  · exact item_good2 hi he
  · cases he
theorem untilP_good2 {T : List Tk} {form : Int → PR} (op i : Int) (o : List It) (a : Int) (he : untilP T form op i = .ok o a) : (tkAt T (a - 1)).kind ≠ 5 := by
  unfold untilP at he
  obtain ⟨h1, he⟩ := need_ok he
  obtain ⟨o1, b, hf, he⟩ := also_ok he
  obtain ⟨h2, he⟩ := need_ok he
  obtain ⟨o2, d, hf2, he⟩ := also_ok he
  obtain ⟨h3, he⟩ := need_ok he
  simp only [PR.ok.injEq] at he
  obtain ⟨rfl, rfl⟩ := he
  exact last_of (isTk_not h3 (by decide)) (by omega)
theorem signP_good2 {T : List Tk} {prop : Bool} {sg form : Int → PR} (hs : Good2 T sg) : Good2 T (signP T prop sg form) := by
  intro i o a he
  unfold signP at he
  split at he
  · obtain ⟨o1, b, h2, he⟩ := also_ok he
    obtain ⟨h3, he⟩ := need_ok he
    simp only [PR.ok.injEq] at he
    obtain ⟨rfl, rfl⟩ := he
    exact last_of (isTk_not h3 (by decide)) (by omega)
  split at he
  · exact compP_good2 T i o a he
  rename_i hk
  have g0 : (tkAt T i).kind ≠ 5 := by omega
  split at he
  · obtain ⟨o1, b, h2, he⟩ := also_ok he
    simp only [PR.ok.injEq] at he
    obtain ⟨rfl, rfl⟩ := he
    exact hs _ _ _ h2
  split at he
  · cases he
  split at he
  · exact untilP_good2 _ _ _ _ he
  split at he
  · exact untilP_good2 _ _ _ _ he
  split at he
  · exact atomP_good2 T prop i o a g0 he
  · obtain ⟨o1, b, h2, he⟩ := also_ok he
    simp only [PR.ok.injEq] at he
    obtain ⟨rfl, rfl⟩ := he
    exact hs _ _ _ h2
theorem formP_good2 {T : List Tk} {sg form : Int → PR} (hs : Good2 T sg) (hf : Good2 T form) : Good2 T (formP T sg form) := by
  intro i o a he
  unfold formP at he
  obtain ⟨o1, b, h1, he⟩ := also_ok he
  have g1 := rowsP_good2 (rowsP_good2 hs wAnd 16) wOr 17 _ _ _ h1
  split at he
  · obtain ⟨o2, c, h2, he⟩ := also_ok he
    simp only [PR.ok.injEq] at he
    obtain ⟨rfl, rfl⟩ := he
    exact hf _ _ _ h2
  · simp only [PR.ok.injEq] at he
    obtain ⟨rfl, rfl⟩ := he
    exact g1
theorem both_good2 (T : List Tk) (prop : Bool) : ∀ n, Good2 T (bothP T prop n).1 ∧ Good2 T (bothP T prop n).2
  | 0 => ⟨fun i o a h => (by have h : badP T i 5 = .ok o a := h; cases h), fun i o a h => (by have h : badP T i 5 = .ok o a := h; cases h)⟩
  | n + 1 => by
    have ih := both_good2 T prop n
    have hs := signP_good2 (prop := prop) (form := (bothP T prop n).2) ih.1
    exact ⟨hs, formP_good2 hs ih.2⟩

/-- what is wrong has a number -/
def Good3 (one : Int → PR) : Prop := ∀ i e l c, one i = .bad e l c → e ≠ 0
theorem also_no {p : PR} {f : List It → Int → PR} {e l c : Int} (h : p.also f = .bad e l c) : p = .bad e l c ∨ ∃ o1 a1, p = .ok o1 a1 ∧ f o1 a1 = .bad e l c := by
  cases p with
  | ok o1 a1 => exact .inr ⟨o1, a1, rfl, h⟩
  | bad er l' c' => exact .inl h
theorem badP_no {T : List Tk} {i er e l c : Int} (h : badP T i er = .bad e l c) (h0 : er ≠ 0) : e ≠ 0 := by
  unfold badP at h
  simp only [PR.bad.injEq] at h
  omega
theorem need_no {T : List Tk} {i kind : Int} {s : ByteArray} {f : Int → PR} {e l c : Int} (h : needP T i kind s f = .bad e l c) : e ≠ 0 ∨ f (i + 1) = .bad e l c := by
  unfold needP at h
  split at h
  · exact .inr h
  · exact .inl (badP_no h (by decide))
theorem rowP_no {T : List Tk} {one : Int → PR} (h : Good3 one) (wd : ByteArray) (op : Int) : ∀ (k : Nat) (i : Int) (out : List It) (e l c : Int), rowP T one wd op k i out = .bad e l c → e ≠ 0
  | 0, i, out, e, l, c, he => by cases he
  | k + 1, i, out, e, l, c, he => by
    rw [rowP] at he
    split at he
    · rcases also_no he with he | ⟨o1, a1, _, he⟩
      · exact h _ _ _ _ he
      · exact rowP_no h wd op k _ _ _ _ _ he
    · cases he
theorem rowsP_no {T : List Tk} {one : Int → PR} (h : Good3 one) (wd : ByteArray) (op : Int) : Good3 (rowsP T one wd op) := by
  intro i e l c he
  rcases also_no he with he | ⟨o1, a1, _, he⟩
  · exact h _ _ _ _ he
  · exact rowP_no h wd op _ _ _ _ _ _ he
theorem compP_no (T : List Tk) : Good3 (compP T) := by
  intro i e l c he
  unfold compP at he
  repeat' split at he
  all_goals first | exact badP_no he (by decide) | cases he
theorem namedP_no (T : List Tk) (i op e l c : Int) (he : namedP T i op = .bad e l c) : e ≠ 0 := by
  unfold namedP at he
  split at he
  · cases he
  · exact badP_no he (by decide)
theorem didP_no (T : List Tk) (i e l c : Int) (he : didP T i = .bad e l c) : e ≠ 0 := by
  unfold didP at he
  repeat' split at he
  all_goals first | exact badP_no he (by decide) | cases he
theorem atomP_no (T : List Tk) (prop : Bool) (i e l c : Int) (he : atomP T prop i = .bad e l c) : e ≠ 0 := by
  unfold atomP at he
  repeat' split at he
  all_goals first | exact badP_no he (by decide) | exact namedP_no _ _ _ _ _ _ he | exact didP_no _ _ _ _ _ he | cases he
theorem untilP_no {T : List Tk} {form : Int → PR} (h : Good3 form) (op i e l c : Int) (he : untilP T form op i = .bad e l c) : e ≠ 0 := by
  unfold untilP at he
  rcases need_no he with he | he
  · exact he
  rcases also_no he with he | ⟨o1, a1, _, he⟩
  · exact h _ _ _ _ he
  rcases need_no he with he | he
  · exact he
  rcases also_no he with he | ⟨o2, a2, _, he⟩
  · exact h _ _ _ _ he
  rcases need_no he with he | he
  · exact he
  cases he
theorem signP_no {T : List Tk} {prop : Bool} {sg form : Int → PR} (hs : Good3 sg) (hf : Good3 form) : Good3 (signP T prop sg form) := by
  intro i e l c he
  unfold signP at he
  split at he
  · rcases also_no he with he | ⟨o1, a1, _, he⟩
    · exact hf _ _ _ _ he
    rcases need_no he with he | he
    · exact he
    cases he
  split at he
  · exact compP_no T i e l c he
  split at he
  · rcases also_no he with he | ⟨o1, a1, _, he⟩
    · exact hs _ _ _ _ he
    cases he
  split at he
  · exact badP_no he (by decide)
  split at he
  · exact untilP_no hf _ _ _ _ _ he
  split at he
  · exact untilP_no hf _ _ _ _ _ he
  split at he
  · exact atomP_no T prop i e l c he
  · rcases also_no he with he | ⟨o1, a1, _, he⟩
    · exact hs _ _ _ _ he
    cases he
theorem formP_no {T : List Tk} {sg form : Int → PR} (hs : Good3 sg) (hf : Good3 form) : Good3 (formP T sg form) := by
  intro i e l c he
  unfold formP at he
  rcases also_no he with he | ⟨o1, a1, _, he⟩
  · exact rowsP_no (rowsP_no hs wAnd 16) wOr 17 _ _ _ _ he
  split at he
  · rcases also_no he with he | ⟨o2, a2, _, he⟩
    · exact hf _ _ _ _ he
    cases he
  · cases he
theorem both_no (T : List Tk) (prop : Bool) : ∀ n, Good3 (bothP T prop n).1 ∧ Good3 (bothP T prop n).2
  | 0 => ⟨fun i e l c h => badP_no (show badP T i 5 = .bad e l c from h) (by decide), fun i e l c h => badP_no (show badP T i 5 = .bad e l c from h) (by decide)⟩
  | n + 1 => by
    have ih := both_no T prop n
    have hs := signP_no (T := T) (prop := prop) ih.1 ih.2
    exact ⟨hs, formP_no hs ih.2⟩

end Go.Proofs.YthhjepgcbfmfeaaGreatDoor

namespace Go.Proofs.YthhjepgcbfmfeaaGreatDoor
open Go.RowKit

/-- a slice that reads as items -/
def ItRow (w : World) (v : Value) (T : List It) : Prop := ∃ B, w.ownsRow B 39 9 v T.length (itFlat T)
theorem ItRow.keep {w w' : World} {v : Value} {T : List It} (h : ItRow w v T) (hb : Below w.heap.size w w') : ItRow w' v T := by
  obtain ⟨B, h⟩ := h; exact ⟨B, owns_below h hb⟩
theorem ItRow.drewN {w : World} {v : Value} {T : List It} (h : ItRow w v T) (n : Nat) : ItRow (w.drewN n) v T := h
theorem ItRow.alloc {w : World} {v : Value} {T : List It} (h : ItRow w v T) (o : Obj) : ItRow (w.alloc o) v T := h.keep ((Below.refl _ _).alloc (Nat.le_refl _) o)
theorem ItRow.len {w : World} {v : Value} {T : List It} (h : ItRow w v T) : ∃ ad cap, v = .slice ad T.length cap := by
  obtain ⟨B, h⟩ := h; exact owns_len h
theorem ItRow.at {w : World} {v : Value} {T : List It} (h : ItRow w v T) {k : Nat} {x : It} (hx : T[k]? = some x) :
    ∃ g cap, v = .slice (some ⟨g, 0, none⟩) T.length cap ∧ g < w.heap.size ∧ w.cell? ⟨g, k * 9, none⟩ = some (.int .i64 x.op) ∧ w.cell? ⟨g, k * 9 + 1, none⟩ = some (.string x.ln) ∧ w.cell? ⟨g, k * 9 + 2, none⟩ = some (.int .i64 x.lnum) ∧
      w.cell? ⟨g, k * 9 + 3, none⟩ = some (.string x.rn) ∧ w.cell? ⟨g, k * 9 + 4, none⟩ = some (.int .i64 x.rnum) ∧ w.cell? ⟨g, k * 9 + 5, none⟩ = some (.string x.name) ∧ w.cell? ⟨g, k * 9 + 6, none⟩ = some (.string x.user) ∧
      w.cell? ⟨g, k * 9 + 7, none⟩ = some (.int .i64 x.line) ∧ w.cell? ⟨g, k * 9 + 8, none⟩ = some (.int .i64 x.col) := by
  obtain ⟨B, h⟩ := h
  have hk := (List.getElem?_eq_some_iff.1 hx).1
  obtain ⟨g, cap, rfl, hg, hgs⟩ := owns_shape h (by omega)
  have c := fun j (hj : j < 9) => (World.ownsRow.cellAt h (k * 9 + j) (by omega)).trans (itFlat_get _ k j x hx hj)
  exact ⟨g, cap, rfl, hgs, c 0 (by omega), c 1 (by omega), c 2 (by omega), c 3 (by omega), c 4 (by omega), c 5 (by omega), c 6 (by omega), c 7 (by omega), c 8 (by omega)⟩

end Go.Proofs.YthhjepgcbfmfeaaGreatDoor

namespace Go.Proofs.YthhjepgcbfmfeaaGreatDoor
open Go.RowKit

theorem row_apart {w : World} {base : Nat} {e t : TypeId} {sz : Nat} {v : Value} {n k : Nat} {xs : List Value} {cs : Array Value} {fr : Nat × Nat} (h : w.ownsRow base e sz v n xs) (hk : w.heap[k]? = some (.cells cs t fr)) (hne : t ≠ e) : v.ownBlock ≠ some k := by
  rcases h.2 with ⟨rfl, _⟩ | ⟨g, cap, cur, rfl, _, hg, _⟩
  · simp [Value.ownBlock]
  · intro hgk
    simp [Value.ownBlock] at hgk
    subst hgk
    rw [hk] at hg
    simp at hg
    exact hne hg.2.1
theorem row_store {w : World} {base : Nat} {e t : TypeId} {sz : Nat} {v : Value} {n k : Nat} {xs : List Value} {cs : Array Value} {fr : Nat × Nat} (h : w.ownsRow base e sz v n xs) (hk : w.heap[k]? = some (.cells cs t fr)) (hne : t ≠ e) (j : Nat) (u : Value) :
    (w.setCell ⟨k, j, none⟩ u).ownsRow base e sz v n xs := by
  have hnb := row_apart h hk hne
  refine ⟨h.1, ?_⟩
  rcases h.2 with hn | ⟨g, cap, cur, hv, hBg, hgg, r⟩
  · exact .inl hn
  · exact .inr ⟨g, cap, cur, hv, hBg, (Below.heap_setCell _ _ _ _ (by show g ≠ k; intro e'; exact hnb (by rw [hv, e']; rfl))).trans hgg, r⟩
theorem bytes_beq (x s : ByteArray) : (x.toList == s.toList) = decide (x = s) := by
  rw [Bool.eq_iff_iff, decide_eq_true_iff, beq_iff_eq, ByteArray.toList_eq, ByteArray.toList_eq]
  exact ⟨fun h => ByteArray.ext (Array.ext' h), fun h => by rw [h]⟩

end Go.Proofs.YthhjepgcbfmfeaaGreatDoor
