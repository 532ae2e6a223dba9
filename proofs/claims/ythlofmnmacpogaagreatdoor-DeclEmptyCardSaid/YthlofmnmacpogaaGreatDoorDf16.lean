/- Plain: bytes of texts; steps of the token reader. Plain: a text of blanks and a note has no token but the end. -/
import Derived.Test.YthlofmnmacpogaaGreatDoorDf15
import Derived.Test.YthlofmnmacpogaaGreatDoorDf14

namespace Go.Proofs.YthlofmnmacpogaaGreatDoor
open Go.RowKit

theorem get_list (P : ByteArray) (k : Nat) : P.get! k = P.data.toList.getD k 0 := by
  cases P with | mk bs =>
  show bs[k]! = bs.toList.getD k 0
  rw [List.getD_eq_getElem?_getD, Array.getElem?_toList, getElem!_def]
  cases bs[k]? with
  | none => rfl
  | some x => rfl
theorem ext_list (P : ByteArray) (b e : Nat) : (P.extract b e).data.toList = (P.data.toList.drop b).take (e - b) := by
  simp [ByteArray.data_extract, List.extract_eq_take_drop]
theorem ba_ext {a b : ByteArray} (h : a.data.toList = b.data.toList) : a = b := by
  cases a; cases b
  simp only [ByteArray.mk.injEq]
  exact Array.toList_inj.1 h
theorem take_one {l : List UInt8} {n : Nat} {x : UInt8} (h : l[n]? = some x) : (l.drop n).take 1 = [x] := by
  obtain ⟨hn, rfl⟩ := List.getElem?_eq_some_iff.1 h
  rw [List.drop_eq_getElem_cons hn]; rfl
/-- what a byte of ASCII is -/
theorem dec_ascii {P : ByteArray} {p : Nat} (h : (P.get! p).toNat < 128) : decR P p = ((P.get! p).toNat : Int) ∧ decN P p = 1 := by
  have hd : Utf8.decode P p = ((P.get! p).toNat, 1) := by
    unfold Utf8.decode
    simp only [Nat.add_zero]
    rw [if_pos h]
  unfold decR decN
  rw [hd]
  refine ⟨?_, rfl⟩
  rw [if_neg (by omega)]
theorem run_step {P : ByteArray} {L : List Rn} {k i j : Nat} {T U : List Tk} (hi : i < L.length) (h : oneT P L i T = ⟨0, 0, 0, j, U⟩) : runT P L (k + 1) i T = runT P L k j U := by
  rw [runT, if_pos hi, h]; rfl
theorem one_blank {P : ByteArray} {L : List Rn} {i : Nat} {T : List Tk} (h : rAt L i = 10) : oneT P L i T = ⟨0, 0, 0, i + 1, T⟩ := by
  unfold oneT; rw [h]; rfl

end Go.Proofs.YthlofmnmacpogaaGreatDoor

namespace Go.Proofs.YthlofmnmacpogaaGreatDoor
open Go.RowKit

theorem ascii_at {P : ByteArray} (hP : AsciiT P) : (allR P).length = P.size ∧ ∀ j b, P.data.toList[j]? = some b → rAt (allR P) j = (b.toNat : Int) := by
  have h := restG_ascii P hP (P.size - 0) 0 1 1 (by omega) (by omega)
  refine ⟨by simpa [allR, restG] using h.1, fun j b hj => ?_⟩
  have hlt : j < P.size := by have := (List.getElem?_eq_some_iff.1 hj).1; simpa using this
  have e := h.2 j (by omega)
  show rAt (runesAt (decR P) P (P.size - 0) 0 1 1) j = _
  rw [e, dif_pos (by omega)]
  have : P[0 + j]'(by omega) = b := by
    have h2 := (List.getElem?_eq_some_iff.1 hj).2
    simp only [Nat.zero_add]
    rw [← h2]
    simp [ByteArray.getElem_eq_getElem_data]
  rw [this]
theorem row_to {q : Int → Bool} (q1 : q (-1) = false) {L : List Rn} : ∀ (d i : Nat), (∀ j, i ≤ j → j < i + d → q (rAt L j) = true) → q (rAt L (i + d)) = false → rowE q L i = i + d
  | 0, i, _, h => rowE_no q L i h
  | d + 1, i, ha, h => by
    rw [rowE_yes q q1 L i (ha i (Nat.le_refl _) (by omega)), row_to q1 d (i + 1) (fun j h1 h2 => ha j (by omega) (by omega)) (by rw [show i + 1 + d = i + (d + 1) by omega]; exact h)]
    omega
theorem run_blanks {P : ByteArray} {L : List Rn} {T : List Tk} : ∀ (d k i : Nat), (∀ j, i ≤ j → j < i + d → blankB (rAt L j) = true) → i + d ≤ L.length → runT P L (k + d) i T = runT P L k (i + d) T
  | 0, k, i, _, _ => rfl
  | d + 1, k, i, ha, hl => by
    have h1 : oneT P L i T = ⟨0, 0, 0, i + 1, T⟩ := by unfold oneT; rw [if_pos (ha i (Nat.le_refl _) (by omega))]
    rw [← Nat.add_assoc, run_step (by omega) h1, run_blanks d k (i + 1) (fun j h1 h2 => ha j (by omega) (by omega)) (by omega)]
    rw [show i + 1 + d = i + (d + 1) by omega]
theorem run_end {P : ByteArray} {L : List Rn} {T : List Tk} (k i : Nat) (h : L.length ≤ i) : runT P L k i T = ⟨0, 0, 0, i, T⟩ := by
  cases k with
  | zero => rfl
  | succ k => rw [runT, if_neg (by omega)]

/-- blanks, a note, a line's end, blanks -/
theorem empty_tok {P : ByteArray} {bl s : List UInt8} (hP : P.data.toList = bl ++ ([35, 32] ++ (s ++ (10 :: bl)))) (hb : ∀ b ∈ bl, blankB (b.toNat : Int) = true ∧ b.toNat < 128) (hs : ∀ b ∈ s, 32 ≤ b.toNat ∧ b.toNat < 127) (hl : bl.length + s.length ≤ 1000) :
    tokRes P = ⟨0, 0, 0, 0, [endTk P]⟩ := by
  have hsz : P.size = bl.length + 2 + s.length + 1 + bl.length := by
    have : P.data.toList.length = P.size := by simp
    rw [← this, hP]; simp; omega
  have hA : AsciiT P := by
    intro k hk
    have hm : P[k]'hk ∈ P.data.toList := by
      rw [ByteArray.getElem_eq_getElem_data]; simp
    rw [hP] at hm
    simp only [List.mem_append, List.mem_cons, List.not_mem_nil, or_false] at hm
    rcases hm with h | (h | h) | h | h | h
    · exact (hb _ h).2
    · rw [h]; decide
    · rw [h]; decide
    · have := hs _ h; omega
    · rw [h]; decide
    · exact (hb _ h).2
  obtain ⟨hlen, hat⟩ := ascii_at hA
  obtain ⟨L, hL⟩ : ∃ L, allR P = L := ⟨_, rfl⟩
  rw [hL] at hlen hat
  have b1 : ∀ j, j < bl.length → blankB (rAt L j) = true := fun j hj => by
    have hx := List.getElem?_eq_getElem hj
    rw [hat j bl[j] (by rw [hP, List.getElem?_append_left hj]; exact hx)]
    exact (hb _ (List.getElem_mem hj)).1
  have b2 : rAt L bl.length = 35 := by
    rw [hat _ 35 (by rw [hP, List.getElem?_append_right (Nat.le_refl _), Nat.sub_self]; rfl)]; rfl
  have b3 : ∀ j, j < 2 + s.length → restB (rAt L (bl.length + j)) = true := fun j hj => by
    have e : P.data.toList[bl.length + j]? = ([35, 32] ++ (s ++ (10 :: bl)))[j]? := by rw [hP, List.getElem?_append_right (by omega), show bl.length + j - bl.length = j by omega]
    by_cases h2 : j < 2
    · have : j = 0 ∨ j = 1 := by omega
      rcases this with rfl | rfl
      · rw [hat _ 35 (by rw [e]; rfl)]; decide
      · rw [hat _ 32 (by rw [e]; rfl)]; decide
    · rw [List.getElem?_append_right (by simpa using h2), List.getElem?_append_left (by simp; omega)] at e
      have hj2 : j - [(35 : UInt8), 32].length < s.length := by simp; omega
      rw [List.getElem?_eq_getElem hj2] at e
      rw [hat _ _ e]
      have := hs _ (List.getElem_mem hj2)
      unfold restB
      simp only [decide_eq_true_eq]
      omega
  have e4 : ∀ j, P.data.toList[bl.length + 2 + s.length + j]? = (10 :: bl)[j]? := fun j => by
    rw [hP, List.getElem?_append_right (by omega), List.getElem?_append_right (by simp; omega), List.getElem?_append_right (by simp; omega)]
    congr 1
    simp; omega
  have b4 : rAt L (bl.length + 2 + s.length) = 10 := by
    rw [hat _ 10 (by have := e4 0; rw [Nat.add_zero] at this; rw [this]; rfl)]; rfl
  have b5 : ∀ j, j < 1 + bl.length → blankB (rAt L (bl.length + 2 + s.length + j)) = true := fun j hj => by
    cases j with
    | zero => rw [Nat.add_zero, b4]; decide
    | succ j =>
      have hj2 : j < bl.length := by omega
      rw [hat _ bl[j] (by rw [e4 (j + 1), List.getElem?_cons_succ]; exact List.getElem?_eq_getElem hj2)]
      exact (hb _ (List.getElem_mem hj2)).1
  have hr : rowE restB L bl.length = bl.length + (2 + s.length) :=
    row_to (by decide) (2 + s.length) bl.length (fun j h1 h2 => by have := b3 (j - bl.length) (by omega); rwa [show bl.length + (j - bl.length) = j by omega] at this) (by rw [← Nat.add_assoc, b4]; decide)
  have h1 : oneT P L bl.length [] = ⟨0, 0, 0, bl.length + 2 + s.length, []⟩ := by
    unfold oneT
    rw [b2, if_neg (by decide), if_pos rfl]
    unfold restT
    rw [hr, ← Nat.add_assoc, if_neg (by rw [b4]; omega)]
  have hrun : runT P L L.length 0 [] = ⟨0, 0, 0, L.length, []⟩ := by
    rw [show L.length = (1 + bl.length + (1 + s.length) + 1) + bl.length by omega]
    rw [run_blanks bl.length _ 0 (fun j _ h2 => b1 j (by omega)) (by omega), Nat.zero_add, run_step (by omega) h1, Nat.add_comm (1 + bl.length) (1 + s.length)]
    rw [run_blanks (1 + bl.length) (1 + s.length) (bl.length + 2 + s.length) (fun j h1 h2 => by have := b5 (j - (bl.length + 2 + s.length)) (by omega); rwa [show bl.length + 2 + s.length + (j - (bl.length + 2 + s.length)) = j by omega] at this) (by omega)]
    rw [run_end _ _ (by omega)]
    congr 1
    omega
  unfold tokRes
  rw [hL, if_neg (by omega), hrun]
  rfl

end Go.Proofs.YthlofmnmacpogaaGreatDoor
