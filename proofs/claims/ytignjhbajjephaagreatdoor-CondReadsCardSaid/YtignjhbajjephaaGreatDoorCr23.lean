/- Contract of warderref05.sign (printed by gen_rsign.py). -/
import Derived.Test.YtignjhbajjephaaGreatDoorCr20
import Derived.Test.YtignjhbajjephaaGreatDoorCr21
import Derived.Test.YtignjhbajjephaaGreatDoorCr22

namespace Go.Proofs.YtignjhbajjephaaGreatDoor
open Go.RowKit

theorem rsign_succ (n : Nat) (hn : n ≤ 24) (hf : RFormOK n) (hs : RSignOK n) : RSignOK (n + 1) := by
  intro w B lv T i prop d h hB hlo hhi hd
  have hd' : d = 24 - (n : Int) := by omega
  show Calls _ _ _ _ (RPost w (signP T prop (bothP T prop n).1 (bothP T prop n).2 i))
  rw [← rsign_is]
  unfold rsignP
  by_cases ho : isTk T i 4 sOpen = true
  · rw [if_pos ho]
    exact rsign_open n hn h hB i hlo hhi d hd' prop hf ho
  rw [if_neg ho]
  rw [Bool.not_eq_true] at ho
  by_cases hk2 : (tkAt T i).kind ≠ 2
  · rw [if_pos hk2]
    exact rsign_comp n hn h hB i hlo hhi d hd' prop ho hk2
  rw [if_neg hk2]
  have hkind : (tkAt T i).kind = 2 := by omega
  have hr := idxP_range notL (tkAt T i).text
  simp only [show ((notL.length : Nat) : Int) = 9 from rfl] at hr
  obtain ⟨k, hk⟩ : ∃ k, idxP notL (tkAt T i).text = k := ⟨_, rfl⟩
  rw [hk] at hr ⊢
  dsimp only
  by_cases h0 : k < 0
  · rw [if_pos h0]
    have : k = -1 := by omega
    exact rsign_atom n hn h hB i hlo hhi d hd' prop ho hkind (hk.trans this)
  rw [if_neg h0]
  by_cases h1 : 0 < k ∧ prop = false
  · rw [if_pos h1]
    obtain ⟨h1, rfl⟩ := h1
    exact rsign_not n hn h hB i d hd' ho hkind k hk h1
  rw [if_neg h1]
  by_cases hk0 : k = 0
  · subst hk0
    rw [if_neg (by omega), if_pos rfl]
    exact rsign_op0 n hn h hB i hlo hhi d hd' prop hs ho hkind hk
  have hp : prop = true := by cases prop; exact absurd ⟨by omega, rfl⟩ h1; rfl
  subst hp
  have h9 : k = 1 ∨ k = 2 ∨ k = 3 ∨ k = 4 ∨ k = 5 ∨ k = 6 ∨ k = 7 ∨ k = 8 := by omega
  rcases h9 with rfl | rfl | rfl | rfl | rfl | rfl | rfl | rfl
  · rw [if_neg (by omega), if_neg (by omega)]
    exact rsign_op1 n hn h hB i hlo hhi d hd' hs ho hkind hk
  · rw [if_neg (by omega), if_neg (by omega)]
    exact rsign_op2 n hn h hB i hlo hhi d hd' hs ho hkind hk
  · rw [if_neg (by omega), if_neg (by omega)]
    exact rsign_op3 n hn h hB i hlo hhi d hd' hs ho hkind hk
  · rw [if_neg (by omega), if_neg (by omega)]
    exact rsign_op4 n hn h hB i hlo hhi d hd' hs ho hkind hk
  · rw [if_neg (by omega), if_neg (by omega)]
    exact rsign_op5 n hn h hB i hlo hhi d hd' hs ho hkind hk
  · rw [if_neg (by omega), if_neg (by omega)]
    exact rsign_op6 n hn h hB i hlo hhi d hd' hs ho hkind hk
  · rw [if_pos (by omega)]
    exact rsign_until7 n hn h hB i hhi d hd' hf ho hkind hk
  · rw [if_pos (by omega)]
    exact rsign_until8 n hn h hB i hhi d hd' hf ho hkind hk

end Go.Proofs.YtignjhbajjephaaGreatDoor
