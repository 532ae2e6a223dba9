/- Contracts of the two Signs, the two Prints, and the two words. -/
import Derived.Test.YthhjepgcbfmfeaaDoorShow1
import Derived.Test.YthhjepgcbfmfeaaDoorShelf
import Derived.Lib.AppendIntMem
import Derived.Laws.IdiomStrings
import Derived.Test.YthhjepgcbfmfeaaDoorStructs
import Derived.Test.YthhjepgcbfmfeaaDoorBlk
namespace Go.Proofs.YthhjepgcbfmfeaaDoor
open Go.RowKit Go.Sort

def signsT : ByteArray := ⟨#[116, 114, 117, 101, 32, 102, 97, 108, 115, 101, 32, 60, 32, 60, 61, 32, 62, 32, 62, 61, 32, 61, 32, 33, 61, 32, 111, 112, 101, 110, 32, 100, 111, 110, 101, 32, 99, 97, 110, 32, 100, 105, 100, 32, 99, 111, 109, 112, 108, 101, 116, 101, 32, 115, 116, 117, 99, 107, 32, 110, 111, 116, 32, 97, 110, 100, 32, 111, 114, 32, 105, 109, 112, 108, 105, 101, 115, 32, 65, 88, 32, 69, 88, 32, 65, 70, 32, 69, 70, 32, 65, 71, 32, 69, 71, 32, 65, 32, 69]⟩
theorem signsT_size : signsT.size < 4294967281 := by decide +kernel
theorem signsT_ascii : ∀ (j : Nat) b, signsT.data.toList[j]? = some b → b.toNat < 128 := by
  have h : ∀ b ∈ signsT.data.toList, b.toNat < 128 := by decide +kernel
  exact fun j b hj => h b (List.mem_of_getElem? hj)
theorem signsT_fields : Lib.fields signsT.data.toList = signsL.map (fun s => s.data.toList) := by decide +kernel
theorem signs_vals : ((Lib.fields signsT.data.toList).map fun l => Value.string ⟨l.toArray⟩) = signsL.map Value.string := by
  rw [signsT_fields, List.map_map]
  refine List.map_congr_left fun s _ => ?_
  show Value.string ⟨s.data.toList.toArray⟩ = _
  rw [Array.toArray_toList]
theorem signs_len : (Lib.fields signsT.data.toList).length = 26 := by rw [signsT_fields]; rfl
theorem signB_at {k : Nat} (h : k < 26) : (signsL.map Value.string)[k]? = some (.string (signB ((k : Int) + 1))) := by
  unfold signB
  rw [if_neg (by omega), show ((k : Int) + 1 - 1).toNat = k by omega]
  rw [List.getElem?_map, List.getElem?_eq_getElem (show k < signsL.length from h)]
  rfl
theorem signB_out {op : Int} (h : op < 1 ∨ 26 < op) : signB op = nil8 := by unfold signB; rw [if_pos h]

set_option maxRecDepth 100000 in
set_option maxHeartbeats 1000000 in
theorem sign_any {w : World} (ht : Tabs w) (op : Int) :
    Calls Tryd.prog 11 #[.int .i64 op] w fun e w' => e = .returned (.string (signB op)) ∧ Below w.heap.size w w' := by
  have HF := Lib.hid (Tryd.strings_Fields signsT w signsT_size signsT_ascii ht.spc)
  rw [signs_vals, signs_len] at HF
  obtain ⟨W, hW⟩ : ∃ W, w.alloc (.cells (signsL.map Value.string).toArray 9) = W := ⟨_, rfl⟩
  rw [hW] at HF
  have HB : Hid (Below w.heap.size w W) := by unfold Hid; rw [← hW]; exact (Below.refl _ _).alloc (Nat.le_refl _) _
  rcases (show op < 1 ∨ (∃ k : Nat, k < 26 ∧ op = (k : Int) + 1) ∨ 26 < op by
    rcases (show op < 1 ∨ (1 ≤ op ∧ op ≤ 26) ∨ 26 < op by omega) with h | h | h
    · exact .inl h
    · exact .inr (.inl ⟨(op - 1).toNat, by omega, by omega⟩)
    · exact .inr (.inr h)) with h | ⟨k, hk, rfl⟩ | h
  · have HS := Lib.hid (signB_out (.inl h))
    have h1 : decide (op < 1) = true := decide_eq_true h
    rw [HS.out]
    clear h ht hW
    go_enter Tryd.func11, Tryd.ntmps11
    go_wp2_with fail
    refine HF.out.mono ?_
    rintro e w2 ⟨rfl, rfl⟩
    go_wp2
    go_ret
    exact ⟨rfl, HB.out⟩
  · have hc : W.cell? ⟨w.heap.size, k, none⟩ = some (.string (signB ((k : Int) + 1))) := by
      rw [← hW, World.cell?_alloc_new]
      have := signB_at hk
      simpa using this
    have h1 : ¬ ((k : Int) + 1 < 1) := by omega
    have h2 : ¬ (26 < (k : Int) + 1) := by omega
    clear ht hW
    go_enter Tryd.func11, Tryd.ntmps11
    go_wp2_with fail
    refine HF.out.mono ?_
    rintro e w2 ⟨rfl, rfl⟩
    go_wp2
    go_ret
    exact ⟨rfl, HB.out⟩
  · have HS := Lib.hid (signB_out (.inr h))
    have h1 : decide (op < 1) = false := decide_eq_false (by omega)
    have h2 : (26 : Int) < op := h
    rw [HS.out]
    clear ht hW h
    go_enter Tryd.func11, Tryd.ntmps11
    go_wp2_with fail
    refine HF.out.mono ?_
    rintro e w2 ⟨rfl, rfl⟩
    go_wp2
    go_ret
    exact ⟨rfl, HB.out⟩

set_option maxRecDepth 100000 in
set_option maxHeartbeats 1000000 in
theorem rsign_any (w : World) (op : Int) :
    Calls Tryd.prog 12 #[.int .i64 op] w fun e w' => e = .returned (.string (signB op)) ∧ Below w.heap.size w w' := by
  rcases (show op < 1 ∨ (∃ k : Nat, k < 26 ∧ op = (k : Int) + 1) ∨ 26 < op by
    rcases (show op < 1 ∨ (1 ≤ op ∧ op ≤ 26) ∨ 26 < op by omega) with h | h | h
    · exact .inl h
    · exact .inr (.inl ⟨(op - 1).toNat, by omega, by omega⟩)
    · exact .inr (.inr h)) with h | ⟨k, hk, rfl⟩ | h
  · have HS := Lib.hid (signB_out (.inl h))
    have h1 : decide (op < 1) = true := decide_eq_true h
    rw [HS.out]
    clear h
    go_enter Tryd.func12, Tryd.ntmps12
    go_wp2
    go_ret
    exact ⟨rfl, (Below.refl _ _).alloc (Nat.le_refl _) _⟩
  · have hc : (w.alloc (.cells #[.string ⟨#[116, 114, 117, 101]⟩, .string ⟨#[102, 97, 108, 115, 101]⟩, .string ⟨#[60]⟩, .string ⟨#[60, 61]⟩, .string ⟨#[62]⟩, .string ⟨#[62, 61]⟩, .string ⟨#[61]⟩, .string ⟨#[33, 61]⟩, .string ⟨#[111, 112, 101, 110]⟩, .string ⟨#[100, 111, 110, 101]⟩, .string ⟨#[99, 97, 110]⟩, .string ⟨#[100, 105, 100]⟩, .string ⟨#[99, 111, 109, 112, 108, 101, 116, 101]⟩, .string ⟨#[115, 116, 117, 99, 107]⟩, .string ⟨#[110, 111, 116]⟩, .string ⟨#[97, 110, 100]⟩, .string ⟨#[111, 114]⟩, .string ⟨#[105, 109, 112, 108, 105, 101, 115]⟩, .string ⟨#[65, 88]⟩, .string ⟨#[69, 88]⟩, .string ⟨#[65, 70]⟩, .string ⟨#[69, 70]⟩, .string ⟨#[65, 71]⟩, .string ⟨#[69, 71]⟩, .string ⟨#[65]⟩, .string ⟨#[69]⟩] 9)).cell? ⟨w.heap.size, k, none⟩ = some (.string (signB ((k : Int) + 1))) := by
      rw [World.cell?_alloc_new]
      have := signB_at hk
      rw [← Array.getElem?_toList]
      exact this
    have h1 : ¬ ((k : Int) + 1 < 1) := by omega
    have h2 : ¬ (26 < (k : Int) + 1) := by omega
    go_enter Tryd.func12, Tryd.ntmps12
    go_wp2
    go_ret
    exact ⟨rfl, (Below.refl _ _).alloc (Nat.le_refl _) _⟩
  · have HS := Lib.hid (signB_out (.inr h))
    have h1 : decide (op < 1) = false := decide_eq_false (by omega)
    have h2 : (26 : Int) < op := h
    rw [HS.out]
    clear h
    go_enter Tryd.func12, Tryd.ntmps12
    go_wp2
    go_ret
    exact ⟨rfl, (Below.refl _ _).alloc (Nat.le_refl _) _⟩

theorem below_print (w : World) (k : Nat) (os : Array Obj) : Below w.heap.size w (grow (w.drewN k) os) := Lib.below_grow _ w (Nat.le_refl _) k os
set_option maxHeartbeats 1000000 in
theorem print_any {w : World} (ht : Tabs w) (n : Int) (h0 : -9223372036854775808 ≤ n) (h1 : n ≤ 9223372036854775807) :
    Calls Tryd.prog 43 #[.int .i64 n] w fun e w' => e = .returned (.string ⟨(Lib.itoa n).toArray⟩) ∧ Below w.heap.size w w' := by
  have HF := Lib.hid (Tryd.strconv_FormatInt_10 n h0 h1 w ht.pow)
  clear ht
  go_enter Tryd.func43, Tryd.ntmps43
  go_wp2_with fail
  refine HF.out.mono ?_
  rintro e w2 ⟨rfl, k, os, rfl⟩
  have HB := Lib.hid (below_print w k os)
  go_wp2
  go_ret
  exact ⟨rfl, HB.out⟩

set_option maxRecDepth 100000 in
set_option maxHeartbeats 1000000 in
theorem word_any {w : World} (ht : Tabs w) (n : ByteArray) (k : Int) (h0 : -9223372036854775808 ≤ k) (h1 : k ≤ 9223372036854775807) (hs : n.size ≤ 140737488351232) :
    Calls Tryd.prog 38 #[.agg #[.string n, .int .i64 k]] w fun e w' => e = .returned (.tuple #[.string (wordTx n k), .bool (wordNm n)]) ∧ Below w.heap.size w w' := by
  have HT := Lib.hid (ht.alloc (.cells #[.string n, .int .i64 k] 32))
  have hb0 : Below w.heap.size w (w.alloc (.cells #[.string n, .int .i64 k] 32)) := (Below.refl _ w).alloc (Nat.le_refl _) _
  have HB0 := Lib.hid hb0
  have he := empty_list n
  clear ht hb0
  by_cases hz : n.size = 0
  · rw [decide_eq_true hz] at he
    have HW : Hid (wordTx n k = ⟨(Lib.itoa k).toArray⟩ ∧ wordNm n = true) := by unfold Hid wordTx wordNm; rw [if_pos hz, decide_eq_true hz]; exact ⟨rfl, rfl⟩
    rw [HW.out.1, HW.out.2]
    have HP := Lib.hid (print_any HT.out k h0 h1)
    clear hz
    go_enter Tryd.func38, Tryd.ntmps38
    go_wp2_with fail
    refine HP.out.mono ?_
    rintro e w2 ⟨rfl, hb2⟩
    have HB2 := Lib.hid (HB0.out.trans (hb2.mono HB0.out.size))
    clear hb2
    go_wp2
    go_ret2
    exact ⟨rfl, HB2.out⟩
  · rw [decide_eq_false hz] at he
    have HW : Hid (wordTx n k = n ∧ wordNm n = nameOK n) := by unfold Hid wordTx wordNm; rw [if_neg hz, decide_eq_false hz]; exact ⟨rfl, rfl⟩
    rw [HW.out.1, HW.out.2]
    have HP := Lib.hid (fun W (hm : MaxCell W) => name_yes n W hm hs)
    clear hz
    go_enter Tryd.func38, Tryd.ntmps38
    go_upto_region 3 with fail
    obtain ⟨W, hW⟩ : ∃ W, w.alloc (.cells #[.string n, .int .i64 k] 32) = W := ⟨_, rfl⟩
    have hk0 : Blk W w.heap.size #[.string n, .int .i64 k] 32 := by rw [← hW]; exact Blk.new _ _ _
    rw [hW] at HT HB0 ⊢
    have HT2 := Lib.hid (show MaxCell W.drew from HT.out.mx)
    have HB2 := Lib.hid (HB0.out.drew)
    have HK2 := Lib.hid (hk0.drew)
    have c0 := hk0.cell (i := 0) rfl
    have c1 := hk0.drew.cell (i := 0) rfl
    clear hW hk0
    go_wp2
    go_region_held3 (fun w' => w'.cell? ⟨w.heap.size, 0, none⟩ = some (.string n)) (first | assumption | go_keep)
      (first | (go_simp; go_at_call 9; (with_reducible refine (HP.out _ HT2.out).mono ?_); rintro e w5 ⟨rfl, hb5⟩; have HB5 := Lib.hid (HB2.out.trans (hb5.mono HB2.out.size)); have q5 := (HK2.out.keep hb5).cell (i := 0) rfl; clear hb5) | (trace_state; fail))
    all_goals
      go_wp2
      go_ret2
      exact ⟨rfl, HB5.out⟩

end Go.Proofs.YthhjepgcbfmfeaaDoor
