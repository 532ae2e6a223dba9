/- Contracts of warderref02's words and Known. -/
import Derived.Test.YtgmijfmbbaipfaaDoorRef02c
namespace Go.Proofs.YtgmijfmbbaipfaaDoor
open Go.RowKit

/-- the language's words -/
def wordsB : List ByteArray :=
  [{ data := #[97, 116, 116, 114] },
   { data := #[117, 115, 101, 114] },
   { data := #[114, 111, 108, 101] },
   { data := #[115, 116, 97, 103, 101] },
   { data := #[105, 110] },
   { data := #[101, 118, 101, 110, 116] },
   { data := #[98, 121] },
   { data := #[115, 101, 116, 115] },
   { data := #[109, 97, 120] },
   { data := #[111, 110] },
   { data := #[105, 102] },
   { data := #[103, 117, 97, 114, 100] },
   { data := #[109, 105, 108, 101, 115, 116, 111, 110, 101] },
   { data := #[111, 102] },
   { data := #[102, 105, 110, 97, 108] },
   { data := #[115, 111, 100] },
   { data := #[97, 110, 100] },
   { data := #[111, 114] },
   { data := #[110, 111, 116] },
   { data := #[105, 109, 112, 108, 105, 101, 115] },
   { data := #[111, 112, 101, 110] },
   { data := #[100, 111, 110, 101] },
   { data := #[99, 97, 110] },
   { data := #[100, 105, 100] },
   { data := #[99, 111, 109, 112, 108, 101, 116, 101] },
   { data := #[115, 116, 117, 99, 107] },
   { data := #[116, 114, 117, 101] },
   { data := #[102, 97, 108, 115, 101] },
   { data := #[105, 100, 108, 101] },
   { data := #[108, 111, 111, 112] },
   { data := #[65, 88] },
   { data := #[69, 88] },
   { data := #[65, 70] },
   { data := #[69, 70] },
   { data := #[65, 71] },
   { data := #[69, 71] },
   { data := #[65] },
   { data := #[69] },
   { data := #[85] }]

/-- is a text a word of the language? -/
def knownB (s : ByteArray) : Bool := wordsB.any (fun x => decide (x = s))

theorem cells_lit (w : World) (us : Array Value) (e : TypeId) (t : Nat) (x : Value) (h : us.toList[t]? = some x) : (w.alloc (.cells us e)).cell? ⟨w.heap.size, 0 + t, none⟩ = some x := by
  rw [World.cell?_alloc_at _ _ _ _ rfl, Nat.zero_add]
  simpa using h

theorem beq_bytes (x s : ByteArray) : (x.toList == s.toList) = decide (x = s) := by
  rw [ByteArray.toList_eq, ByteArray.toList_eq, Bool.eq_iff_iff, beq_iff_eq, decide_eq_true_iff]
  constructor
  · intro h
    exact ByteArray.ext (Array.ext' h)
  · rintro rfl
    rfl

theorem words_len : wordsB.length = 39 := rfl

set_option maxRecDepth 100000 in
set_option maxHeartbeats 1000000 in
theorem rwords_any (w : World) :
    Calls Tryd.prog 33 #[] w fun e w' => e = .returned (.slice (some ⟨w.heap.size, 0, none⟩) 39 39) ∧ (∀ t x, (wordsB.map Value.string)[t]? = some x → w'.cell? ⟨w.heap.size, 0 + t, none⟩ = some x) ∧ Below w.heap.size w w' := by
  go_enter Tryd.func33, Tryd.ntmps33
  go_wp2_with fail
  go_ret
  exact ⟨rfl, fun t x hx => cells_lit _ _ _ t x hx, (Below.refl _ _).alloc (Nat.le_refl _) _⟩

set_option maxHeartbeats 1000000 in
theorem rknown_any (s : ByteArray) (w : World) :
    Calls Tryd.prog 28 #[.string s] w fun e w' => e = .returned (.bool (knownB s)) ∧ Below w.heap.size w w' := by
  go_enter Tryd.func28, Tryd.ntmps28
  go_wp2_with fail
  refine (rwords_any _).mono ?_
  rintro e w1 ⟨rfl, hc, hb⟩
  have HC := Lib.hid hc
  have HB := Lib.hid hb
  clear hc hb
  go_wp2
  go_loop [4] (fun i => ∃ k : Nat, k ≤ 39 ∧ i = .int .i64 k ∧ Hid ((wordsB.take k).any (fun x => decide (x = s)) = false)) (fun i => 39 - (intOf i).toNat)
  case atStart => exact ⟨0, Nat.zero_le _, rfl, rfl⟩
  case round =>
    obtain ⟨k, hk, rfl, HE⟩ := hrel
    by_cases hlt : k < 39
    · obtain ⟨x, hx⟩ : ∃ x, wordsB[k]? = some x := ⟨_, List.getElem?_eq_getElem (by rw [words_len]; exact hlt)⟩
      have hcell : w1.cell? ⟨w.heap.size, k, none⟩ = some (.string x) := by rw [← HC.out k _ (by rw [List.getElem?_map, hx]; rfl), Nat.zero_add]
      have hsn : (wordsB.take (k + 1)).any (fun x => decide (x = s)) = decide (x = s) := by
        rw [List.take_add_one, hx, List.any_append, HE.out]; simp
      have hyes : decide (x = s) = true → knownB s = true := by
        intro hg
        rw [hg] at hsn
        unfold knownB
        obtain ⟨y, hy, hp⟩ := List.any_eq_true.1 hsn
        exact List.any_eq_true.2 ⟨y, List.mem_of_mem_take hy, hp⟩
      clear hx
      cases hg : decide (x = s)
      · rw [hg] at hsn
        have hl : (x.toList == s.toList) = false := by rw [beq_bytes]; exact hg
        have HS := Lib.hid hsn
        clear hsn hyes
        go_wp2
        go_round
        case rel => exact ⟨k + 1, by omega, by go_num, HS⟩
        case measure => simp [intOf]; omega
      · have hl : (x.toList == s.toList) = true := by rw [beq_bytes]; exact hg
        have HY := Lib.hid (hyes hg)
        clear hsn hyes
        go_wp2
        go_ret
        exact ⟨ret_bool HY.out.symm, HB.out⟩
    · obtain rfl : k = 39 := by omega
      have HF : Hid (knownB s = false) := Lib.hid (by have := HE.out; rwa [List.take_of_length_le (by rw [words_len]; exact Nat.le_refl _)] at this)
      go_wp2
      go_ret
      exact ⟨ret_bool HF.out.symm, HB.out⟩

end Go.Proofs.YtgmijfmbbaipfaaDoor
