/- Contracts of warderref02's sign and hasGreat. Plain: the number of a text of digits, a - anywhere passed by. Contract of warderref02's value. -/
import Derived.Test.YtignjhbajjephaaGreatDoorCr31

namespace Go.Proofs.YtignjhbajjephaaGreatDoor
open Go.RowKit

/-- how many runes the sign has that begins with c, d behind it -/
def signN (c d : Int) : Nat :=
  if (c = 60 ∨ c = 62 ∨ c = 33) ∧ d = 61 then 2
  else if c = 60 ∨ c = 62 ∨ c = 61 ∨ c = 40 ∨ c = 41 ∨ c = 91 ∨ c = 93 ∨ c = 44 ∨ c = 59 then 1 else 0

set_option maxHeartbeats 1000000 in
theorem rsign_60t {w : World} {v : Value} {L : List Rn} (h : RR w v L) (i : Nat) (hi : i ≤ 4294967290) (hc0 : rAt L i = 60) (hd : rAt L (i + 1) = 61) :
    Calls Tryz.prog 44 #[v, .int .i64 i] w fun e w' => e = .returned (.int .i64 2) ∧ w = w' := by
  have HR := Lib.hid h; clear h
  have HC := Lib.hid hc0; clear hc0
  go_enter Tryz.func44, Tryz.ntmps44
  go_wp2_with fail
  refine (rat_any HR.out _ (by omega) (by omega)).mono ?_
  rintro e w' ⟨rfl, rfl⟩
  rw [Int.toNat_natCast, HC.out]
  go_wp2_with fail
  refine (rat_any HR.out _ (by omega) (by omega)).mono ?_
  rintro e w' ⟨rfl, rfl⟩
  rw [show ((i : Int) + 1).toNat = i + 1 by omega]
  go_wp2
  go_ret
  exact ⟨rfl, rfl⟩

set_option maxHeartbeats 1000000 in
theorem rsign_60f {w : World} {v : Value} {L : List Rn} (h : RR w v L) (i : Nat) (hi : i ≤ 4294967290) (hc0 : rAt L i = 60) (hd : (rAt L (i + 1) == 61) = false) :
    Calls Tryz.prog 44 #[v, .int .i64 i] w fun e w' => e = .returned (.int .i64 1) ∧ w = w' := by
  have HR := Lib.hid h; clear h
  have HC := Lib.hid hc0; clear hc0
  go_enter Tryz.func44, Tryz.ntmps44
  go_wp2_with fail
  refine (rat_any HR.out _ (by omega) (by omega)).mono ?_
  rintro e w' ⟨rfl, rfl⟩
  rw [Int.toNat_natCast, HC.out]
  go_wp2_with fail
  refine (rat_any HR.out _ (by omega) (by omega)).mono ?_
  rintro e w' ⟨rfl, rfl⟩
  rw [show ((i : Int) + 1).toNat = i + 1 by omega]
  go_wp2
  go_ret
  exact ⟨rfl, rfl⟩

set_option maxHeartbeats 1000000 in
theorem rsign_62t {w : World} {v : Value} {L : List Rn} (h : RR w v L) (i : Nat) (hi : i ≤ 4294967290) (hc0 : rAt L i = 62) (hd : rAt L (i + 1) = 61) :
    Calls Tryz.prog 44 #[v, .int .i64 i] w fun e w' => e = .returned (.int .i64 2) ∧ w = w' := by
  have HR := Lib.hid h; clear h
  have HC := Lib.hid hc0; clear hc0
  go_enter Tryz.func44, Tryz.ntmps44
  go_wp2_with fail
  refine (rat_any HR.out _ (by omega) (by omega)).mono ?_
  rintro e w' ⟨rfl, rfl⟩
  rw [Int.toNat_natCast, HC.out]
  go_wp2_with fail
  refine (rat_any HR.out _ (by omega) (by omega)).mono ?_
  rintro e w' ⟨rfl, rfl⟩
  rw [show ((i : Int) + 1).toNat = i + 1 by omega]
  go_wp2
  go_ret
  exact ⟨rfl, rfl⟩

set_option maxHeartbeats 1000000 in
theorem rsign_62f {w : World} {v : Value} {L : List Rn} (h : RR w v L) (i : Nat) (hi : i ≤ 4294967290) (hc0 : rAt L i = 62) (hd : (rAt L (i + 1) == 61) = false) :
    Calls Tryz.prog 44 #[v, .int .i64 i] w fun e w' => e = .returned (.int .i64 1) ∧ w = w' := by
  have HR := Lib.hid h; clear h
  have HC := Lib.hid hc0; clear hc0
  go_enter Tryz.func44, Tryz.ntmps44
  go_wp2_with fail
  refine (rat_any HR.out _ (by omega) (by omega)).mono ?_
  rintro e w' ⟨rfl, rfl⟩
  rw [Int.toNat_natCast, HC.out]
  go_wp2_with fail
  refine (rat_any HR.out _ (by omega) (by omega)).mono ?_
  rintro e w' ⟨rfl, rfl⟩
  rw [show ((i : Int) + 1).toNat = i + 1 by omega]
  go_wp2
  go_ret
  exact ⟨rfl, rfl⟩

set_option maxHeartbeats 1000000 in
theorem rsign_33t {w : World} {v : Value} {L : List Rn} (h : RR w v L) (i : Nat) (hi : i ≤ 4294967290) (hc0 : rAt L i = 33) (hd : rAt L (i + 1) = 61) :
    Calls Tryz.prog 44 #[v, .int .i64 i] w fun e w' => e = .returned (.int .i64 2) ∧ w = w' := by
  have HR := Lib.hid h; clear h
  have HC := Lib.hid hc0; clear hc0
  go_enter Tryz.func44, Tryz.ntmps44
  go_wp2_with fail
  refine (rat_any HR.out _ (by omega) (by omega)).mono ?_
  rintro e w' ⟨rfl, rfl⟩
  rw [Int.toNat_natCast, HC.out]
  go_wp2_with fail
  refine (rat_any HR.out _ (by omega) (by omega)).mono ?_
  rintro e w' ⟨rfl, rfl⟩
  rw [show ((i : Int) + 1).toNat = i + 1 by omega]
  go_wp2
  go_ret
  exact ⟨rfl, rfl⟩

set_option maxHeartbeats 1000000 in
theorem rsign_33f {w : World} {v : Value} {L : List Rn} (h : RR w v L) (i : Nat) (hi : i ≤ 4294967290) (hc0 : rAt L i = 33) (hd : (rAt L (i + 1) == 61) = false) :
    Calls Tryz.prog 44 #[v, .int .i64 i] w fun e w' => e = .returned (.int .i64 0) ∧ w = w' := by
  have HR := Lib.hid h; clear h
  have HC := Lib.hid hc0; clear hc0
  go_enter Tryz.func44, Tryz.ntmps44
  go_wp2_with fail
  refine (rat_any HR.out _ (by omega) (by omega)).mono ?_
  rintro e w' ⟨rfl, rfl⟩
  rw [Int.toNat_natCast, HC.out]
  go_wp2_with fail
  refine (rat_any HR.out _ (by omega) (by omega)).mono ?_
  rintro e w' ⟨rfl, rfl⟩
  rw [show ((i : Int) + 1).toNat = i + 1 by omega]
  go_wp2
  go_ret
  exact ⟨rfl, rfl⟩

set_option maxHeartbeats 1000000 in
theorem rsign_61 {w : World} {v : Value} {L : List Rn} (h : RR w v L) (i : Nat) (hi : i ≤ 4294967290) (hc0 : rAt L i = 61) :
    Calls Tryz.prog 44 #[v, .int .i64 i] w fun e w' => e = .returned (.int .i64 1) ∧ w = w' := by
  have HR := Lib.hid h; clear h
  have HC := Lib.hid hc0; clear hc0
  go_enter Tryz.func44, Tryz.ntmps44
  go_wp2_with fail
  refine (rat_any HR.out _ (by omega) (by omega)).mono ?_
  rintro e w' ⟨rfl, rfl⟩
  rw [Int.toNat_natCast, HC.out]
  go_wp2_with fail
  go_ret
  exact ⟨rfl, rfl⟩

set_option maxHeartbeats 1000000 in
theorem rsign_40 {w : World} {v : Value} {L : List Rn} (h : RR w v L) (i : Nat) (hi : i ≤ 4294967290) (hc0 : rAt L i = 40) :
    Calls Tryz.prog 44 #[v, .int .i64 i] w fun e w' => e = .returned (.int .i64 1) ∧ w = w' := by
  have HR := Lib.hid h; clear h
  have HC := Lib.hid hc0; clear hc0
  go_enter Tryz.func44, Tryz.ntmps44
  go_wp2_with fail
  refine (rat_any HR.out _ (by omega) (by omega)).mono ?_
  rintro e w' ⟨rfl, rfl⟩
  rw [Int.toNat_natCast, HC.out]
  go_wp2_with fail
  go_ret
  exact ⟨rfl, rfl⟩

set_option maxHeartbeats 1000000 in
theorem rsign_41 {w : World} {v : Value} {L : List Rn} (h : RR w v L) (i : Nat) (hi : i ≤ 4294967290) (hc0 : rAt L i = 41) :
    Calls Tryz.prog 44 #[v, .int .i64 i] w fun e w' => e = .returned (.int .i64 1) ∧ w = w' := by
  have HR := Lib.hid h; clear h
  have HC := Lib.hid hc0; clear hc0
  go_enter Tryz.func44, Tryz.ntmps44
  go_wp2_with fail
  refine (rat_any HR.out _ (by omega) (by omega)).mono ?_
  rintro e w' ⟨rfl, rfl⟩
  rw [Int.toNat_natCast, HC.out]
  go_wp2_with fail
  go_ret
  exact ⟨rfl, rfl⟩

set_option maxHeartbeats 1000000 in
theorem rsign_91 {w : World} {v : Value} {L : List Rn} (h : RR w v L) (i : Nat) (hi : i ≤ 4294967290) (hc0 : rAt L i = 91) :
    Calls Tryz.prog 44 #[v, .int .i64 i] w fun e w' => e = .returned (.int .i64 1) ∧ w = w' := by
  have HR := Lib.hid h; clear h
  have HC := Lib.hid hc0; clear hc0
  go_enter Tryz.func44, Tryz.ntmps44
  go_wp2_with fail
  refine (rat_any HR.out _ (by omega) (by omega)).mono ?_
  rintro e w' ⟨rfl, rfl⟩
  rw [Int.toNat_natCast, HC.out]
  go_wp2_with fail
  go_ret
  exact ⟨rfl, rfl⟩

set_option maxHeartbeats 1000000 in
theorem rsign_93 {w : World} {v : Value} {L : List Rn} (h : RR w v L) (i : Nat) (hi : i ≤ 4294967290) (hc0 : rAt L i = 93) :
    Calls Tryz.prog 44 #[v, .int .i64 i] w fun e w' => e = .returned (.int .i64 1) ∧ w = w' := by
  have HR := Lib.hid h; clear h
  have HC := Lib.hid hc0; clear hc0
  go_enter Tryz.func44, Tryz.ntmps44
  go_wp2_with fail
  refine (rat_any HR.out _ (by omega) (by omega)).mono ?_
  rintro e w' ⟨rfl, rfl⟩
  rw [Int.toNat_natCast, HC.out]
  go_wp2_with fail
  go_ret
  exact ⟨rfl, rfl⟩

set_option maxHeartbeats 1000000 in
theorem rsign_44 {w : World} {v : Value} {L : List Rn} (h : RR w v L) (i : Nat) (hi : i ≤ 4294967290) (hc0 : rAt L i = 44) :
    Calls Tryz.prog 44 #[v, .int .i64 i] w fun e w' => e = .returned (.int .i64 1) ∧ w = w' := by
  have HR := Lib.hid h; clear h
  have HC := Lib.hid hc0; clear hc0
  go_enter Tryz.func44, Tryz.ntmps44
  go_wp2_with fail
  refine (rat_any HR.out _ (by omega) (by omega)).mono ?_
  rintro e w' ⟨rfl, rfl⟩
  rw [Int.toNat_natCast, HC.out]
  go_wp2_with fail
  go_ret
  exact ⟨rfl, rfl⟩

set_option maxHeartbeats 1000000 in
theorem rsign_59 {w : World} {v : Value} {L : List Rn} (h : RR w v L) (i : Nat) (hi : i ≤ 4294967290) (hc0 : rAt L i = 59) :
    Calls Tryz.prog 44 #[v, .int .i64 i] w fun e w' => e = .returned (.int .i64 1) ∧ w = w' := by
  have HR := Lib.hid h; clear h
  have HC := Lib.hid hc0; clear hc0
  go_enter Tryz.func44, Tryz.ntmps44
  go_wp2_with fail
  refine (rat_any HR.out _ (by omega) (by omega)).mono ?_
  rintro e w' ⟨rfl, rfl⟩
  rw [Int.toNat_natCast, HC.out]
  go_wp2_with fail
  go_ret
  exact ⟨rfl, rfl⟩

set_option maxHeartbeats 1000000 in
theorem rsign_no {w : World} {v : Value} {L : List Rn} (h : RR w v L) (i : Nat) (hi : i ≤ 4294967290) (hn : ∀ k ∈ [60, 62, 33, 61, 40, 41, 91, 93, 44, 59], rAt L i ≠ k) :
    Calls Tryz.prog 44 #[v, .int .i64 i] w fun e w' => e = .returned (.int .i64 0) ∧ w = w' := by
  have HR := Lib.hid h; clear h
  obtain ⟨c, hc⟩ : ∃ c, c = rAt L i := ⟨_, rfl⟩
  rw [← hc] at hn
  have HC := Lib.hid hc; clear hc
  have n60 : (c == 60) = false := beq_eq_false_iff_ne.2 (hn 60 (by simp))
  have n62 : (c == 62) = false := beq_eq_false_iff_ne.2 (hn 62 (by simp))
  have n33 : (c == 33) = false := beq_eq_false_iff_ne.2 (hn 33 (by simp))
  have n61 : (c == 61) = false := beq_eq_false_iff_ne.2 (hn 61 (by simp))
  have n40 : (c == 40) = false := beq_eq_false_iff_ne.2 (hn 40 (by simp))
  have n41 : (c == 41) = false := beq_eq_false_iff_ne.2 (hn 41 (by simp))
  have n91 : (c == 91) = false := beq_eq_false_iff_ne.2 (hn 91 (by simp))
  have n93 : (c == 93) = false := beq_eq_false_iff_ne.2 (hn 93 (by simp))
  have n44 : (c == 44) = false := beq_eq_false_iff_ne.2 (hn 44 (by simp))
  have n59 : (c == 59) = false := beq_eq_false_iff_ne.2 (hn 59 (by simp))
  clear hn
  go_enter Tryz.func44, Tryz.ntmps44
  go_wp2_with fail
  refine (rat_any HR.out _ (by omega) (by omega)).mono ?_
  rintro e w' ⟨rfl, rfl⟩
  rw [Int.toNat_natCast, ← HC.out]
  go_wp2_with fail
  go_ret
  exact ⟨rfl, rfl⟩

theorem rsign_any {w : World} {v : Value} {L : List Rn} (h : RR w v L) (i : Nat) (hi : i ≤ 4294967290) :
    Calls Tryz.prog 44 #[v, .int .i64 i] w fun e w' => e = .returned (.int .i64 (signN (rAt L i) (rAt L (i + 1)) : Nat)) ∧ w = w' := by
  by_cases h60 : rAt L i = 60
  · by_cases hd : rAt L (i + 1) = 61
    · have e : signN (rAt L i) (rAt L (i + 1)) = 2 := by unfold signN; simp [h60, hd]
      rw [e]; exact rsign_60t h i hi h60 hd
    · have e : signN (rAt L i) (rAt L (i + 1)) = 1 := by unfold signN; simp [h60, hd]
      rw [e]; exact rsign_60f h i hi h60 (beq_eq_false_iff_ne.2 hd)
  by_cases h62 : rAt L i = 62
  · by_cases hd : rAt L (i + 1) = 61
    · have e : signN (rAt L i) (rAt L (i + 1)) = 2 := by unfold signN; simp [h62, hd]
      rw [e]; exact rsign_62t h i hi h62 hd
    · have e : signN (rAt L i) (rAt L (i + 1)) = 1 := by unfold signN; simp [h62, hd]
      rw [e]; exact rsign_62f h i hi h62 (beq_eq_false_iff_ne.2 hd)
  by_cases h33 : rAt L i = 33
  · by_cases hd : rAt L (i + 1) = 61
    · have e : signN (rAt L i) (rAt L (i + 1)) = 2 := by unfold signN; simp [h33, hd]
      rw [e]; exact rsign_33t h i hi h33 hd
    · have e : signN (rAt L i) (rAt L (i + 1)) = 0 := by unfold signN; simp [h33, hd]
      rw [e]; exact rsign_33f h i hi h33 (beq_eq_false_iff_ne.2 hd)
  by_cases h61 : rAt L i = 61
  · have e : signN (rAt L i) (rAt L (i + 1)) = 1 := by unfold signN; simp [h61]
    rw [e]; exact rsign_61 h i hi h61
  by_cases h40 : rAt L i = 40
  · have e : signN (rAt L i) (rAt L (i + 1)) = 1 := by unfold signN; simp [h40]
    rw [e]; exact rsign_40 h i hi h40
  by_cases h41 : rAt L i = 41
  · have e : signN (rAt L i) (rAt L (i + 1)) = 1 := by unfold signN; simp [h41]
    rw [e]; exact rsign_41 h i hi h41
  by_cases h91 : rAt L i = 91
  · have e : signN (rAt L i) (rAt L (i + 1)) = 1 := by unfold signN; simp [h91]
    rw [e]; exact rsign_91 h i hi h91
  by_cases h93 : rAt L i = 93
  · have e : signN (rAt L i) (rAt L (i + 1)) = 1 := by unfold signN; simp [h93]
    rw [e]; exact rsign_93 h i hi h93
  by_cases h44 : rAt L i = 44
  · have e : signN (rAt L i) (rAt L (i + 1)) = 1 := by unfold signN; simp [h44]
    rw [e]; exact rsign_44 h i hi h44
  by_cases h59 : rAt L i = 59
  · have e : signN (rAt L i) (rAt L (i + 1)) = 1 := by unfold signN; simp [h59]
    rw [e]; exact rsign_59 h i hi h59
  have e : signN (rAt L i) (rAt L (i + 1)) = 0 := by unfold signN; simp [h60, h62, h33, h61, h40, h41, h91, h93, h44, h59]
  rw [e]
  exact rsign_no h i hi (by intro k hk; simp at hk; rcases hk with rfl | rfl | rfl | rfl | rfl | rfl | rfl | rfl | rfl | rfl <;> assumption)

/-- is a great letter in a text? -/
def hasGreatB (s : ByteArray) : Bool := s.data.toList.any fun b => greatB (b.toNat : Int)

set_option maxHeartbeats 1000000 in
theorem rhasGreat_any (s : ByteArray) (w : World) (hs : s.size ≤ 4294967296) :
    Calls Tryz.prog 46 #[.string s] w fun e w' => e = .returned (.bool (hasGreatB s)) ∧ w = w' := by
  go_enter Tryz.func46, Tryz.ntmps46
  go_wp2
  go_loop [3] (fun i => ∃ k : Nat, k ≤ s.size ∧ i = .int .i64 k ∧ Hid ((s.data.toList.take k).any (fun b => greatB (b.toNat : Int)) = false)) (fun i => s.size - (intOf i).toNat)
  case atStart => exact ⟨0, Nat.zero_le _, rfl, rfl⟩
  case round =>
    obtain ⟨k, hk, rfl, HE⟩ := hrel
    by_cases hlt : k < s.size
    · obtain ⟨c, hc⟩ : ∃ c, (s[k]'hlt).toNat = c := ⟨_, rfl⟩
      have hc255 : c < 256 := by rw [← hc]; exact (s[k]'hlt).toNat_lt
      have hsn : (s.data.toList.take (k + 1)).any (fun b => greatB (b.toNat : Int)) = greatB (c : Int) := by
        have e1 : s.data.toList.take (k + 1) = s.data.toList.take k ++ [s[k]'hlt] := by rw [List.take_succ_eq_append_getElem (by simpa using hlt)]; rfl
        rw [e1, List.any_append, HE.out]; simp [hc]
      have hyes : greatB (c : Int) = true → hasGreatB s = true := by
        intro hg
        rw [hg] at hsn
        unfold hasGreatB
        obtain ⟨x, hx, hp⟩ := List.any_eq_true.1 hsn
        exact List.any_eq_true.2 ⟨x, List.mem_of_mem_take hx, hp⟩
      cases hg : greatB (c : Int)
      · rw [hg] at hsn
        have HS := Lib.hid hsn
        have HG := Lib.hid hg
        clear hsn hyes hg
        go_wp2_with (go_at_call 40; refine (rgreatB_any _ _).mono ?_; rintro e w' ⟨rfl, rfl⟩; rw [HG.out])
        go_round
        case rel => exact ⟨k + 1, by omega, by go_num, HS⟩
        case measure => simp [intOf]; omega
      · have HY := Lib.hid (hyes hg)
        have HG := Lib.hid hg
        clear hsn hyes hg
        go_wp2_with (go_at_call 40; refine (rgreatB_any _ _).mono ?_; rintro e w' ⟨rfl, rfl⟩; rw [HG.out])
        go_ret
        exact ⟨ret_bool HY.out.symm, rfl⟩
    · have HF : Hid (hasGreatB s = false) := by
        have := HE.out
        rw [List.take_of_length_le (by simp; omega)] at this
        exact this
      go_wp2
      go_ret
      exact ⟨ret_bool HF.out.symm, rfl⟩

end Go.Proofs.YtignjhbajjephaaGreatDoor

namespace Go.Proofs.YtignjhbajjephaaGreatDoor
open Go.RowKit

def stepV (n : Nat) (b : UInt8) : Nat := if b.toNat = 45 then n else n * 10 + (b.toNat - 48)

def numV (l : List UInt8) : Nat := l.foldl stepV 0

theorem numV_snoc (l : List UInt8) (b : UInt8) : numV (l ++ [b]) = stepV (numV l) b := by simp [numV]

theorem stepV_ge (n : Nat) (b : UInt8) : n ≤ stepV n b := by unfold stepV; split <;> omega

theorem foldV_ge (l : List UInt8) (n : Nat) : n ≤ l.foldl stepV n := by
  induction l generalizing n with
  | nil => exact Nat.le_refl _
  | cons b t ih => exact Nat.le_trans (stepV_ge n b) (ih _)

theorem numV_take (l : List UInt8) (k : Nat) : numV (l.take k) ≤ numV l := by
  have h : numV l = (l.drop k).foldl stepV (numV (l.take k)) := by
    unfold numV
    rw [← List.foldl_append, List.take_append_drop]
  rw [h]; exact foldV_ge _ _

theorem numV_next (s : ByteArray) (k : Nat) (h : k < s.size) : numV (s.data.toList.take (k + 1)) = stepV (numV (s.data.toList.take k)) (s[k]'h) := by
  have e1 : s.data.toList.take (k + 1) = s.data.toList.take k ++ [s[k]'h] := by rw [List.take_succ_eq_append_getElem (by simpa using h)]; rfl
  rw [e1, numV_snoc]

/-- bytes that are digits, or - -/
def NumT (s : ByteArray) : Prop := ∀ (k : Nat) (h : k < s.size), (s[k]'h).toNat = 45 ∨ (48 ≤ (s[k]'h).toNat ∧ (s[k]'h).toNat ≤ 57)

/-- what value answers: the number, and whether it is within 64 bits -/
def valN (s : ByteArray) (below : Bool) : Int × Bool :=
  if below then (if numV s.data.toList ≤ 9223372036854775808 then (-(numV s.data.toList : Int), true) else (0, false))
  else (if numV s.data.toList ≤ 9223372036854775807 then ((numV s.data.toList : Int), true) else (0, false))

end Go.Proofs.YtignjhbajjephaaGreatDoor

namespace Go.Proofs.YtignjhbajjephaaGreatDoor
open Go.RowKit

theorem ret_val {a c : Int} {b d : Bool} (h1 : a = c) (h2 : b = d) : Ending.returned (.tuple #[.int .i64 a, .bool b]) = .returned (.tuple #[.int .i64 c, .bool d]) := by rw [h1, h2]

set_option maxHeartbeats 2000000 in
theorem rvalue_pos (s : ByteArray) (w : World) (hs : s.size ≤ 4294967296) (h0 : 0 < s.size) (hn : NumT s) (hb : (s[0]'h0).toNat ≠ 45) :
    Calls Tryz.prog 47 #[.string s] w fun e w' => e = .returned (.tuple #[.int .i64 (valN s false).1, .bool (valN s false).2]) ∧ w = w' := by
  obtain ⟨c0, hc0⟩ : ∃ c, (s[0]'h0).toNat = c := ⟨_, rfl⟩
  have hcb : ((c0 : Int) == 45) = false := beq_eq_false_iff_ne.2 (by omega)
  have HN := Lib.hid hn
  clear hn hb
  go_enter Tryz.func47, Tryz.ntmps47
  go_wp2
  go_loop [5, 6, 7] (fun n i _ => ∃ (k m : Nat), k ≤ s.size ∧ i = .int .i64 k ∧ n = .int .i64 m ∧ m ≤ 9223372036854775807 ∧ Hid (numV (s.data.toList.take k) = m)) (fun _ i _ => s.size - (intOf i).toNat)
  case atStart => exact ⟨0, 0, Nat.zero_le _, rfl, rfl, by omega, rfl⟩
  case round =>
    obtain ⟨k, m, hk, rfl, rfl, hm, HE⟩ := hrel
    by_cases hlt : k < s.size
    · obtain ⟨c, hc⟩ : ∃ c, (s[k]'hlt).toNat = c := ⟨_, rfl⟩
      have hstep : numV (s.data.toList.take (k + 1)) = if c = 45 then m else m * 10 + (c - 48) := by
        rw [numV_next s k hlt, HE.out]; unfold stepV; rw [hc]
      have hd : c = 45 ∨ (48 ≤ c ∧ c ≤ 57) := by rw [← hc]; exact HN.out k hlt
      by_cases hc45 : c = 45
      · subst hc45
        have HS := Lib.hid hstep; clear hstep
        go_wp2
        go_round
        case rel => exact ⟨k + 1, m, by omega, by go_num, rfl, hm, Lib.hid (by simpa using HS.out)⟩
        case measure => simp [intOf]; omega
      · have hcf : ((c : Int) == 45) = false := beq_eq_false_iff_ne.2 (by omega)
        rw [if_neg hc45] at hstep
        obtain ⟨hd1, hd2⟩ : 48 ≤ c ∧ c ≤ 57 := by omega
        rcases Nat.lt_trichotomy m 922337203685477580 with hmk | hmk | hmk
        · have HS := Lib.hid hstep; clear hstep
          have hm1 : ((m : Int) == 922337203685477580) = false := beq_eq_false_iff_ne.2 (by omega)
          go_wp2
          go_round
          case rel => exact ⟨k + 1, m * 10 + (c - 48), by omega, by go_num, by go_num, by omega, HS⟩
          case measure => simp [intOf]; omega
        · subst hmk
          by_cases hc7 : c ≤ 55
          · have HS := Lib.hid hstep; clear hstep
            go_wp2
            go_round
            case rel => exact ⟨k + 1, 922337203685477580 * 10 + (c - 48), by omega, by go_num, by go_num, by omega, HS⟩
            case measure => simp [intOf]; omega
          · have HF : Hid (valN s false = (0, false)) := by
              refine Lib.hid ?_
              have := numV_take s.data.toList (k + 1)
              unfold valN
              rw [if_neg (by simp), if_neg (by omega)]
            clear hstep
            go_wp2
            go_ret2
            exact ⟨ret_val (by rw [HF.out]) (by rw [HF.out]), rfl⟩
        · have HF : Hid (valN s false = (0, false)) := by
            refine Lib.hid ?_
            have := numV_take s.data.toList (k + 1)
            unfold valN
            rw [if_neg (by simp), if_neg (by omega)]
          clear hstep
          go_wp2
          go_ret2
          exact ⟨ret_val (by rw [HF.out]) (by rw [HF.out]), rfl⟩
    · have HF : Hid (valN s false = ((m : Int), true)) := by
        refine Lib.hid ?_
        have := HE.out
        rw [List.take_of_length_le (by simp; omega)] at this
        unfold valN
        rw [if_neg (by simp), this, if_pos (by omega)]
      go_wp2
      go_ret2
      exact ⟨ret_val (by rw [HF.out]) (by rw [HF.out]), rfl⟩

set_option maxHeartbeats 2000000 in
theorem rvalue_neg (s : ByteArray) (w : World) (hs : s.size ≤ 4294967296) (h0 : 0 < s.size) (hn : NumT s) (hb : (s[0]'h0).toNat = 45) :
    Calls Tryz.prog 47 #[.string s] w fun e w' => e = .returned (.tuple #[.int .i64 (valN s true).1, .bool (valN s true).2]) ∧ w = w' := by
  obtain ⟨c0, hc0⟩ : ∃ c, (s[0]'h0).toNat = c := ⟨_, rfl⟩
  have hcb : ((c0 : Int) == 45) = true := by rw [beq_iff_eq]; omega
  have HN := Lib.hid hn
  clear hn hb
  go_enter Tryz.func47, Tryz.ntmps47
  go_wp2
  go_loop [5, 6, 7] (fun n i _ => ∃ (k m : Nat), k ≤ s.size ∧ i = .int .i64 k ∧ n = .int .i64 (-(m : Int)) ∧ m ≤ 9223372036854775808 ∧ Hid (numV (s.data.toList.take k) = m)) (fun _ i _ => s.size - (intOf i).toNat)
  case atStart => exact ⟨0, 0, Nat.zero_le _, rfl, rfl, by omega, rfl⟩
  case round =>
    obtain ⟨k, m, hk, rfl, rfl, hm, HE⟩ := hrel
    by_cases hlt : k < s.size
    · obtain ⟨c, hc⟩ : ∃ c, (s[k]'hlt).toNat = c := ⟨_, rfl⟩
      have hstep : numV (s.data.toList.take (k + 1)) = if c = 45 then m else m * 10 + (c - 48) := by
        rw [numV_next s k hlt, HE.out]; unfold stepV; rw [hc]
      have hd : c = 45 ∨ (48 ≤ c ∧ c ≤ 57) := by rw [← hc]; exact HN.out k hlt
      by_cases hc45 : c = 45
      · subst hc45
        have HS := Lib.hid hstep; clear hstep
        go_wp2
        go_round
        case rel => exact ⟨k + 1, m, by omega, by go_num, rfl, hm, Lib.hid (by simpa using HS.out)⟩
        case measure => simp [intOf]; omega
      · have hcf : ((c : Int) == 45) = false := beq_eq_false_iff_ne.2 (by omega)
        rw [if_neg hc45] at hstep
        obtain ⟨hd1, hd2⟩ : 48 ≤ c ∧ c ≤ 57 := by omega
        rcases Nat.lt_trichotomy m 922337203685477580 with hmk | hmk | hmk
        · have HS := Lib.hid hstep; clear hstep
          have hm1 : ((-(m : Int)) == -922337203685477580) = false := beq_eq_false_iff_ne.2 (by omega)
          go_wp2
          go_round
          case rel => exact ⟨k + 1, m * 10 + (c - 48), by omega, by go_num, by go_num, by omega, HS⟩
          case measure => simp [intOf]; omega
        · subst hmk
          by_cases hc7 : c ≤ 56
          · have HS := Lib.hid hstep; clear hstep
            go_wp2
            go_round
            case rel => exact ⟨k + 1, 922337203685477580 * 10 + (c - 48), by omega, by go_num, by go_num, by omega, HS⟩
            case measure => simp [intOf]; omega
          · have HF : Hid (valN s true = (0, false)) := by
              refine Lib.hid ?_
              have := numV_take s.data.toList (k + 1)
              unfold valN
              rw [if_pos rfl, if_neg (by omega)]
            clear hstep
            go_wp2
            go_ret2
            exact ⟨ret_val (by rw [HF.out]) (by rw [HF.out]), rfl⟩
        · have HF : Hid (valN s true = (0, false)) := by
            refine Lib.hid ?_
            have := numV_take s.data.toList (k + 1)
            unfold valN
            rw [if_pos rfl, if_neg (by omega)]
          clear hstep
          go_wp2
          go_ret2
          exact ⟨ret_val (by rw [HF.out]) (by rw [HF.out]), rfl⟩
    · have HF : Hid (valN s true = (-(m : Int), true)) := by
        refine Lib.hid ?_
        have := HE.out
        rw [List.take_of_length_le (by simp; omega)] at this
        unfold valN
        rw [if_pos rfl, this, if_pos (by omega)]
      go_wp2
      go_ret2
      exact ⟨ret_val (by rw [HF.out]) (by rw [HF.out]), rfl⟩

theorem rvalue_any (s : ByteArray) (w : World) (hs : s.size ≤ 4294967296) (h0 : 0 < s.size) (hn : NumT s) :
    Calls Tryz.prog 47 #[.string s] w fun e w' => e = .returned (.tuple #[.int .i64 (valN s (decide ((s[0]'h0).toNat = 45))).1, .bool (valN s (decide ((s[0]'h0).toNat = 45))).2]) ∧ w = w' := by
  by_cases hb : (s[0]'h0).toNat = 45
  · rw [decide_eq_true hb]; exact rvalue_neg s w hs h0 hn hb
  · rw [decide_eq_false hb]; exact rvalue_pos s w hs h0 hn hb

end Go.Proofs.YtignjhbajjephaaGreatDoor
