/- Contract of strings.TrimPrefix at a -, for token's value. -/
import Derived.Test.YthbbbccefjemmaaDoorRef02d
import Derived.Lib.Strings
namespace Go.Proofs.YthbbbccefjemmaaDoor
open Go.RowKit

theorem bytes_cons (s : ByteArray) (h0 : 0 < s.size) : s.data.toList = s[0]'h0 :: s.data.toList.drop 1 := by
  have h : 0 < s.data.toList.length := by simpa using h0
  rw [List.drop_one]
  exact (List.cons_head_tail (List.ne_nil_of_length_pos h)).symm.trans (by rw [List.head_eq_getElem]; rfl)

theorem dash_is (s : ByteArray) (h0 : 0 < s.size) : ((s.extract 0 1).toList == [45]) = decide ((s[0]'h0).toNat = 45) := by
  rw [show ([45] : List UInt8) = (⟨#[45]⟩ : ByteArray).toList by rw [ByteArray.toList_eq], beq_bytes, Bool.eq_iff_iff, decide_eq_true_iff, decide_eq_true_iff]
  have h1 : (s.extract 0 1).data.toList = [s[0]'h0] := by rw [Lib.extract_data, List.drop_zero, bytes_cons s h0]; rfl
  constructor
  · intro h
    have : [s[0]'h0] = [45] := by rw [← h1, h]
    rw [List.cons.inj this |>.1]; rfl
  · intro h
    refine ByteArray.ext (Array.ext' ?_)
    rw [h1]
    have : s[0]'h0 = 45 := UInt8.toNat_inj.1 h
    rw [this]

set_option maxHeartbeats 1000000 in
theorem dash_any (s : ByteArray) (h0 : 0 < s.size) (w : World) (hs : s.size ≤ 4294967296) :
    Calls Tryd.prog 81 #[.string s, .string ⟨#[45]⟩] w fun e w' => e = .returned (.bool (decide ((s[0]'h0).toNat = 45))) ∧ w = w' := by
  have HD := Lib.hid (dash_is s h0)
  go_enter Tryd.func81, Tryd.ntmps81
  go_wp2
  go_ret
  exact ⟨ret_bool HD.out, rfl⟩

/-- the text without its - -/
def noDash (s : ByteArray) (below : Bool) : ByteArray := if below then s.extract 1 s.size else s

set_option maxHeartbeats 1000000 in
theorem trimS_any (s : ByteArray) (h0 : 0 < s.size) (w : World) (hs : s.size ≤ 4294967296) :
    Calls Tryd.prog 74 #[.string s, .string ⟨#[45]⟩] w fun e w' => e = .returned (.string (noDash s (decide ((s[0]'h0).toNat = 45)))) ∧ w = w' := by
  cases hb : decide ((s[0]'h0).toNat = 45)
  · go_enter Tryd.func74, Tryd.ntmps74
    go_wp2_with fail
    refine (dash_any s h0 _ hs).mono ?_
    rintro e w' ⟨rfl, rfl⟩
    rw [hb]
    go_wp2
    go_ret
    exact ⟨rfl, rfl⟩
  · go_enter Tryd.func74, Tryd.ntmps74
    go_wp2_with fail
    refine (dash_any s h0 _ hs).mono ?_
    rintro e w' ⟨rfl, rfl⟩
    rw [hb]
    go_wp2
    go_ret
    exact ⟨rfl, rfl⟩

set_option maxHeartbeats 1000000 in
theorem trim_any (s : ByteArray) (h0 : 0 < s.size) (w : World) (hs : s.size ≤ 4294967296) :
    Calls Tryd.prog 60 #[.string s, .string ⟨#[45]⟩] w fun e w' => e = .returned (.string (noDash s (decide ((s[0]'h0).toNat = 45)))) ∧ w = w' := by
  go_enter Tryd.func60, Tryd.ntmps60
  go_wp2_with fail
  refine (trimS_any s h0 _ hs).mono ?_
  rintro e w' ⟨rfl, rfl⟩
  go_wp2
  go_ret
  exact ⟨rfl, rfl⟩

end Go.Proofs.YthbbbccefjemmaaDoor
