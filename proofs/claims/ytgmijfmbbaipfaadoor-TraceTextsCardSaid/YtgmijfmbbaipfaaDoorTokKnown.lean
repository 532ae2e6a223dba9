/- Contract of token's Known. -/
import Derived.Test.YtgmijfmbbaipfaaDoorKnownPlain
import Derived.Test.YtgmijfmbbaipfaaDoorShelf
import Derived.Lib.IndexLaws
namespace Go.Proofs.YtgmijfmbbaipfaaDoor
open Go.RowKit

/-- the words in a row, as token has them -/
def wordsT : ByteArray := ⟨#[32, 97, 116, 116, 114, 32, 117, 115, 101, 114, 32, 114, 111, 108, 101, 32, 115, 116, 97, 103, 101, 32, 105, 110, 32, 101, 118, 101, 110, 116, 32, 98, 121, 32, 115, 101, 116, 115, 32, 109, 97, 120, 32, 111, 110, 32, 105, 102, 32, 103, 117, 97, 114, 100, 32, 109, 105, 108, 101, 115, 116, 111, 110, 101, 32, 111, 102, 32, 102, 105, 110, 97, 108, 32, 115, 111, 100, 32, 97, 110, 100, 32, 111, 114, 32, 110, 111, 116, 32, 105, 109, 112, 108, 105, 101, 115, 32, 111, 112, 101, 110, 32, 100, 111, 110, 101, 32, 99, 97, 110, 32, 100, 105, 100, 32, 99, 111, 109, 112, 108, 101, 116, 101, 32, 115, 116, 117, 99, 107, 32, 116, 114, 117, 101, 32, 102, 97, 108, 115, 101, 32, 105, 100, 108, 101, 32, 108, 111, 111, 112, 32, 65, 88, 32, 69, 88, 32, 65, 70, 32, 69, 70, 32, 65, 71, 32, 69, 71, 32, 65, 32, 69, 32, 85, 32]⟩

theorem wordsT_is : wordsT.data.toList = 32 :: (wordsB.map (fun x => x.data.toList)).flatMap (fun w => w ++ [32]) := by decide +kernel

theorem wordsT_size : wordsT.size < 4294967281 := by decide +kernel

def spaceB (s : ByteArray) : Bool := decide (0 ≤ Lib.indexByte s.data.toList 32)

theorem noSpace (l : List UInt8) (h : decide (0 ≤ Lib.indexByte l 32) = false) : ∀ b ∈ l, b ≠ 32 := by
  have h1 := of_decide_eq_false h
  have h2 := Lib.indexByte_ge l 32
  have h3 := Lib.indexByte_none (show Lib.indexByte l 32 = -1 by omega)
  intro b hb e
  subst e
  obtain ⟨k, hk⟩ := List.getElem?_of_mem hb
  exact h3 k hk

/-- the cell of internal/bytealg's MaxLen holds some number -/
def MaxCell (w : World) : Prop := ∃ m, w.cell? ⟨1, 0, none⟩ = some (.int .i64 m)
theorem MaxCell.below {w w' : World} {B : Nat} (h : MaxCell w) (hb : Below B w w') (hB : 1 < B) : MaxCell w' := by
  obtain ⟨m, hm⟩ := h
  exact ⟨m, (hb.cell (p := ⟨1, 0, none⟩) hB).trans hm⟩

theorem words_noSpace : ∀ w ∈ wordsB.map (fun x => x.data.toList), ∀ b ∈ w, b ≠ 32 := by decide +kernel

theorem known_is (s : ByteArray) (h : spaceB s = false) : Lib.contains wordsT.data.toList ((⟨#[32]⟩ : ByteArray) ++ s ++ (⟨#[32]⟩ : ByteArray)).data.toList = knownB s := by
  have e : ((⟨#[32]⟩ : ByteArray) ++ s ++ (⟨#[32]⟩ : ByteArray)).data.toList = 32 :: (s.data.toList ++ [32]) := by simp [ByteArray.data_append]
  rw [e, wordsT_is]
  unfold Lib.contains knownB
  rw [Bool.eq_iff_iff, decide_eq_true_iff, index_words _ _ (noSpace _ h) words_noSpace, List.any_eq_true]
  simp only [List.mem_map, decide_eq_true_eq]
  constructor
  · rintro ⟨x, hx, hq⟩
    exact ⟨x, hx, ByteArray.ext (Array.ext' hq)⟩
  · rintro ⟨x, hx, rfl⟩
    exact ⟨x, hx, rfl⟩

set_option maxHeartbeats 1000000 in
theorem known_space (s : ByteArray) (w : World) (hs : s.size ≤ 4611686018427387904) (h0 : 0 < s.size) (h : spaceB s = true) :
    Calls Tryd.prog 23 #[.string s] w fun e w' => e = .returned (.bool false) ∧ w = w' := by
  have H := Lib.hid h
  clear h
  have he : (s.toList == []) = false := by
    rw [ByteArray.toList_eq]
    cases hq : s.data.toList with
    | nil => have : s.data.toList.length = 0 := by rw [hq]; rfl
             have h2 : s.data.toList.length = s.size := by simp
             omega
    | cons a t => rfl
  go_enter Tryd.func23, Tryd.ntmps23
  go_wp2_with fail
  refine (Tryd.strings_Contains_one s 32 _).mono ?_
  rintro e w' ⟨rfl, hw⟩
  subst hw
  rw [show decide (0 ≤ Lib.indexByte s.data.toList 32) = true from H.out]
  go_wp2
  go_ret
  exact ⟨rfl, rfl⟩

set_option maxHeartbeats 1000000 in
theorem known_empty (s : ByteArray) (w : World) (h0 : s.size = 0) :
    Calls Tryd.prog 23 #[.string s] w fun e w' => e = .returned (.bool false) ∧ w = w' := by
  have he : (s.toList == []) = true := by
    rw [ByteArray.toList_eq]
    cases hq : s.data.toList with
    | nil => rfl
    | cons a t => have h2 : s.data.toList.length = s.size := by simp
                  rw [hq] at h2; simp at h2; omega
  go_enter Tryd.func23, Tryd.ntmps23
  go_wp2
  go_ret
  exact ⟨rfl, rfl⟩

set_option maxHeartbeats 1000000 in
theorem known_full (s : ByteArray) (w : World) (hw0 : MaxCell w) (hs : s.size ≤ 4611686018427387904) (h0 : 0 < s.size) (h : spaceB s = false) :
    Calls Tryd.prog 23 #[.string s] w fun e w' => e = .returned (.bool (knownB s)) ∧ w = w' := by
  have H := Lib.hid h
  obtain ⟨m, hm⟩ := hw0
  clear h
  have he : (s.toList == []) = false := by
    rw [ByteArray.toList_eq]
    cases hq : s.data.toList with
    | nil => have : s.data.toList.length = 0 := by rw [hq]; rfl
             have h2 : s.data.toList.length = s.size := by simp
             omega
    | cons a t => rfl
  go_enter Tryd.func23, Tryd.ntmps23
  go_wp2_with fail
  refine (Tryd.strings_Contains_one s 32 _).mono ?_
  rintro e w' ⟨rfl, hw⟩
  subst hw
  rw [show decide (0 ≤ Lib.indexByte s.data.toList 32) = false from H.out]
  go_wp2_with fail
  refine (Tryd.strings_Contains wordsT _ _ _ wordsT_size hm).mono ?_
  rintro e w' ⟨rfl, hw⟩
  subst hw
  rw [known_is s H.out]
  go_wp2
  go_ret
  exact ⟨rfl, rfl⟩

theorem known_mem (s : ByteArray) (h : knownB s = true) : s.data.toList ∈ wordsB.map (fun x => x.data.toList) := by
  unfold knownB at h
  obtain ⟨x, hx, hq⟩ := List.any_eq_true.1 h
  rw [← of_decide_eq_true hq]
  exact List.mem_map_of_mem hx

theorem known_any (s : ByteArray) (w : World) (hw0 : MaxCell w) (hs : s.size ≤ 4611686018427387904) :
    Calls Tryd.prog 23 #[.string s] w fun e w' => e = .returned (.bool (knownB s)) ∧ w = w' := by
  by_cases h0 : s.size = 0
  · have e : knownB s = false := by
      refine Bool.eq_false_iff.2 fun h => ?_
      have hm := known_mem s h
      have hl : s.data.toList = [] := List.length_eq_zero_iff.1 (by simpa using h0)
      rw [hl] at hm
      exact absurd hm (by decide +kernel)
    rw [e]
    exact known_empty s w h0
  · cases h : spaceB s
    · exact known_full s w hw0 hs (by omega) h
    · have e : knownB s = false := by
        refine Bool.eq_false_iff.2 fun hk => ?_
        have hm := words_noSpace _ (known_mem s hk)
        have h1 := of_decide_eq_true h
        obtain ⟨o, ho⟩ := Int.eq_ofNat_of_zero_le h1
        have h2 := (Lib.indexByte_some ho).1
        exact hm 32 (List.mem_of_getElem? h2) rfl
      rw [e]
      exact known_space s w hs (by omega) h

end Go.Proofs.YtgmijfmbbaipfaaDoor
