/- Contract of warderref03's Print, and of warderref06's word. -/
import Derived.Test.YthhjepgcbfmfeaaDoorShow2
namespace Go.Proofs.YthhjepgcbfmfeaaDoor
open Go.RowKit Go.Sort

/-- the digits of a number, none of 0 -/
def dgL (n : Nat) : List UInt8 := if n = 0 then [] else Lib.decDigits n
theorem dgL_step {m : Nat} (h : 0 < m) : dgL m = dgL (m / 10) ++ [UInt8.ofNat (48 + m % 10)] := by
  unfold dgL
  rw [if_neg (by omega), Lib.decDigits]
  split
  · rw [if_pos (by omega), show m % 10 = m by omega]; rfl
  · rw [if_neg (by omega)]
theorem ba_app (a b : List UInt8) : (⟨a.toArray⟩ : ByteArray) ++ ⟨b.toArray⟩ = ⟨(a ++ b).toArray⟩ := by
  apply ByteArray.ext; simp [ByteArray.data_append]
theorem ba_size (a : List UInt8) : (⟨a.toArray⟩ : ByteArray).size = a.length := by show a.toArray.size = a.length; simp
theorem dg_len {m : Nat} (h : m < 10 ^ 19) : (dgL m).length ≤ 19 := by
  unfold dgL
  split
  · simp
  · exact decDigits_len 19 m (by decide) h
theorem byte_conv (w : World) (d : Nat) (hd : d < 10) : (convert 85 9 (.slice (some ⟨w.heap.size, 0, none⟩) 1 1)).run Tryd.prog (w.alloc (.cells #[.int .u8 (48 + (d : Int))] 5)) = .ok (.string ⟨#[UInt8.ofNat (48 + d)]⟩) (w.alloc (.cells #[.int .u8 (48 + (d : Int))] 5)) := by
  have := run_convert_bytes_back (P := Tryd.prog) (w.alloc (.cells #[.int .u8 (48 + (d : Int))] 5)) 85 9 5 ⟨w.heap.size, 0, none⟩ 1 [UInt8.ofNat (48 + d)] Tryd.underlying85 Tryd.underlying5 Tryd.underlying9 (fun j hj => by
    have : j = 0 := by simpa using hj
    subst this
    show (w.alloc (.cells #[.int .u8 (48 + (d : Int))] 5)).cell? ⟨w.heap.size, 0, none⟩ = _
    rw [World.cell?_alloc_new]
    have e : (UInt8.ofNat (48 + d)).toNat = 48 + d := by rw [UInt8.toNat_ofNat']; omega
    rw [show [UInt8.ofNat (48 + d)][0].toNat = 48 + d from e]
    rfl)
  exact this

theorem ret_str {a b : ByteArray} (h : a = b) : Ending.returned (.string a) = .returned (.string b) := by rw [h]
theorem str_eq {a b : ByteArray} (h : a = b) : Value.string a = .string b := by rw [h]
set_option maxRecDepth 100000 in
set_option maxHeartbeats 2000000 in
theorem rprint_pos {w : World} (N : Nat) (h0 : 0 < N) (h1 : (N : Int) ≤ 9223372036854775807) :
    Calls Tryd.prog 40 #[.int .i64 N] w fun e w' => e = .returned (.string ⟨(dgL N).toArray⟩) ∧ Below w.heap.size w w' := by
  have hz0 : ((N : Int) == 0) = false := beq_eq_false_iff_ne.2 (by omega)
  have hz1 : decide ((N : Int) < 0) = false := decide_eq_false (by omega)
  go_enter Tryd.func40, Tryd.ntmps40
  go_wp2
  go_loopw [0, 3, 5] (fun n s _ wr => ∃ (m : Nat) (l : List UInt8), n = .int .i64 m ∧ s = .string ⟨l.toArray⟩ ∧ m ≤ N ∧ l.length ≤ 19 ∧ Hid (dgL N = dgL m ++ l) ∧ Below w.heap.size w wr) (fun n _ _ _ => (intOf n).toNat)
  case atStart => exact ⟨N, [], rfl, rfl, Nat.le_refl _, by simp, by unfold Hid; simp, Below.refl _ _⟩
  case round =>
    obtain ⟨m, l, rfl, rfl, hm, hl, HE, hb⟩ := hrel
    have HB := Lib.hid hb
    clear hb
    by_cases hm0 : m = 0
    · subst hm0
      have hE := HE.out
      rw [show dgL 0 = [] from rfl, List.nil_append] at hE
      have hls : (⟨l.toArray⟩ : ByteArray).size ≤ 19 := by rw [ba_size]; exact hl
      have HE3 := Lib.hid hE
      clear hE HE
      go_wp2
      go_ret
      exact ⟨ret_str ((ba_app [] l).trans (by rw [HE3.out]; rfl)), HB.out⟩
    · obtain ⟨d, hd⟩ : ∃ d, m % 10 = d := ⟨_, rfl⟩
      obtain ⟨q, hq⟩ : ∃ q, m / 10 = q := ⟨_, rfl⟩
      have HMD : Hid (m = 10 * q + d) := Lib.hid (by omega)
      have hd10 : d < 10 := by omega
      have hrem : Int.tmod (m : Int) 10 = (d : Int) := by rw [Int.tmod_eq_emod_of_nonneg (by omega)]; omega
      have hquo : Int.tdiv (m : Int) 10 = (q : Int) := by rw [Int.tdiv_eq_ediv_of_nonneg (by omega)]; omega
      have hrem2 : (m : Int) % 10 = (d : Int) := by omega
      have hquo2 : (m : Int) / 10 = (q : Int) := by omega
      have hne : ((m : Int) != 0) = true := bne_iff_ne.2 (by omega)
      have hdn : decide ((d : Int) < 0) = false := decide_eq_false (by omega)
      have HE2 : Hid (dgL N = dgL q ++ (UInt8.ofNat (48 + d) :: l)) := by unfold Hid; rw [HE.out, dgL_step (by omega), hd, hq]; simp
      have hl2 : (UInt8.ofNat (48 + d) :: l).length ≤ 19 := by
        have h3 := dg_len (m := N) (by omega)
        rw [HE2.out] at h3
        simp at h3 ⊢; omega
      have HL2 := Lib.hid hl2
      obtain ⟨bt, hbt⟩ : ∃ b, UInt8.ofNat (48 + d) = b := ⟨_, rfl⟩
      have hcv := byte_conv wr d hd10
      rw [hbt] at hcv HE2 HL2
      clear hbt
      have hls : (⟨l.toArray⟩ : ByteArray).size ≤ 19 := by rw [ba_size]; exact hl
      clear hd hq hl2 HE
      go_wp2
      go_roundw
      case rel => exact ⟨q, bt :: l, by go_num, str_eq (ba_app [bt] l), by have := HMD.out; omega, HL2.out, HE2, HB.out.alloc HB.out.size _⟩
      case measure => have := HMD.out; simp [intOf]; omega

theorem byte_conv0 (w : World) : (convert 85 9 (.slice (some ⟨w.heap.size, 0, none⟩) 1 1)).run Tryd.prog (w.alloc (.cells #[.int .u8 48] 5)) = .ok (.string ⟨#[UInt8.ofNat (48 + 0)]⟩) (w.alloc (.cells #[.int .u8 48] 5)) := byte_conv w 0 (by decide)
theorem byte_conv1 (w : World) (e d : Nat) (hd : d < 10) (he : d = e + 1) : (convert 85 9 (.slice (some ⟨w.heap.size, 0, none⟩) 1 1)).run Tryd.prog (w.alloc (.cells #[.int .u8 (48 + ((e : Int) + 1))] 5)) = .ok (.string ⟨#[UInt8.ofNat (48 + d)]⟩) (w.alloc (.cells #[.int .u8 (48 + ((e : Int) + 1))] 5)) := by
  have := byte_conv w d hd
  subst he
  exact this
set_option maxRecDepth 100000 in
set_option maxHeartbeats 2000000 in
theorem rprint_neg {w : World} (N : Nat) (h0 : 0 < N) (h1 : (N : Int) ≤ 9223372036854775808) :
    Calls Tryd.prog 40 #[.int .i64 (-(N : Int))] w fun e w' => e = .returned (.string ⟨(45 :: dgL N).toArray⟩) ∧ Below w.heap.size w w' := by
  have hz0 : (-(N : Int) == 0) = false := beq_eq_false_iff_ne.2 (by omega)
  have hz1 : decide (-(N : Int) < 0) = true := decide_eq_true (by omega)
  go_enter Tryd.func40, Tryd.ntmps40
  go_wp2
  go_loopw [0, 3, 5] (fun n s _ wr => ∃ (z : Int) (m : Nat) (l : List UInt8), n = .int .i64 z ∧ z = -(m : Int) ∧ s = .string ⟨l.toArray⟩ ∧ m ≤ N ∧ l.length ≤ 19 ∧ Hid (dgL N = dgL m ++ l) ∧ Below w.heap.size w wr) (fun n _ _ _ => (-(intOf n)).toNat)
  case atStart => exact ⟨_, N, [], rfl, rfl, rfl, Nat.le_refl _, by simp, by unfold Hid; simp, Below.refl _ _⟩
  case round =>
    obtain ⟨z, m, l, rfl, hzm, rfl, hm, hl, HE, hb⟩ := hrel
    have HB := Lib.hid hb
    clear hb
    by_cases hm0 : m = 0
    · subst hm0
      obtain rfl : z = 0 := by omega
      have hE := HE.out
      rw [show dgL 0 = [] from rfl, List.nil_append] at hE
      have hls : (⟨l.toArray⟩ : ByteArray).size ≤ 19 := by rw [ba_size]; exact hl
      have HE3 := Lib.hid hE
      clear hE HE hzm
      go_wp2
      go_ret
      exact ⟨ret_str ((ba_app [45] l).trans (by rw [HE3.out]; rfl)), HB.out⟩
    · obtain ⟨d, hd⟩ : ∃ d, m % 10 = d := ⟨_, rfl⟩
      obtain ⟨q, hq⟩ : ∃ q, m / 10 = q := ⟨_, rfl⟩
      have HMD : Hid (m = 10 * q + d) := Lib.hid (by omega)
      have hd10 : d < 10 := by omega
      have HZ : Hid (z = -(m : Int)) := Lib.hid hzm
      have hrem : Int.tmod z 10 = -(d : Int) := by rw [hzm, Int.neg_tmod, Int.tmod_eq_emod_of_nonneg (by omega)]; omega
      have hquo : Int.tdiv z 10 = -(q : Int) := by rw [hzm, Int.neg_tdiv, Int.tdiv_eq_ediv_of_nonneg (by omega)]; omega
      have hne : (z != 0) = true := bne_iff_ne.2 (by omega)
      have HE2 : Hid (dgL N = dgL q ++ (UInt8.ofNat (48 + d) :: l)) := by unfold Hid; rw [HE.out, dgL_step (by omega), hd, hq]; simp
      have hl2 : (UInt8.ofNat (48 + d) :: l).length ≤ 19 := by
        have h3 := dg_len (m := N) (by omega)
        rw [HE2.out] at h3
        simp at h3 ⊢; omega
      have HL2 := Lib.hid hl2
      have hls : (⟨l.toArray⟩ : ByteArray).size ≤ 19 := by rw [ba_size]; exact hl
      have hlo : -9223372036854775808 ≤ z := by omega
      have hhi : z < 0 := by omega
      have hql : (q : Int) ≤ 922337203685477580 := by omega
      clear hd hq hl2 HE hzm
      cases d with
      | zero =>
        obtain ⟨bt, hbt⟩ : ∃ b, UInt8.ofNat (48 + 0) = b := ⟨_, rfl⟩
        have hcv := byte_conv0 wr
        rw [hbt] at hcv HE2 HL2
        clear hbt
        rw [show -((0 : Nat) : Int) = 0 from rfl] at hrem
        go_wp2
        go_roundw
        case rel => exact ⟨_, q, bt :: l, rfl, rfl, str_eq (ba_app [bt] l), by have := HMD.out; omega, HL2.out, HE2, HB.out.alloc HB.out.size _⟩
        case measure => have := HMD.out; have := HZ.out; simp [intOf]; omega
      | succ e =>
        obtain ⟨bt, hbt⟩ : ∃ b, UInt8.ofNat (48 + (e + 1)) = b := ⟨_, rfl⟩
        have hcv := byte_conv1 wr e (e + 1) hd10 rfl
        rw [hbt] at hcv HE2 HL2
        clear hbt
        have hdn : decide (-((e + 1 : Nat) : Int) < 0) = true := decide_eq_true (by omega)
        go_wp2
        go_roundw
        case rel => exact ⟨_, q, bt :: l, rfl, rfl, str_eq (ba_app [bt] l), by have := HMD.out; omega, HL2.out, HE2, HB.out.alloc HB.out.size _⟩
        case measure => have := HMD.out; have := HZ.out; simp [intOf]; omega

set_option maxRecDepth 100000 in
set_option maxHeartbeats 2000000 in
theorem rprint_zero (w : World) :
    Calls Tryd.prog 40 #[.int .i64 0] w fun e w' => e = .returned (.string ⟨#[48]⟩) ∧ Below w.heap.size w w' := by
  go_enter Tryd.func40, Tryd.ntmps40
  go_wp2
  go_ret
  exact ⟨rfl, Below.refl _ _⟩
theorem rprint_any (w : World) (n : Int) (h0 : -9223372036854775808 ≤ n) (h1 : n ≤ 9223372036854775807) :
    Calls Tryd.prog 40 #[.int .i64 n] w fun e w' => e = .returned (.string ⟨(Lib.itoa n).toArray⟩) ∧ Below w.heap.size w w' := by
  rcases Int.lt_trichotomy n 0 with h | rfl | h
  · obtain ⟨N, rfl⟩ : ∃ N : Nat, n = -(N : Int) := ⟨(-n).toNat, by omega⟩
    have e : Lib.itoa (-(N : Int)) = 45 :: dgL N := by
      unfold Lib.itoa dgL
      rw [if_pos h, if_neg (by omega), show (-(N : Int)).natAbs = N by omega]
    rw [e]
    exact rprint_neg N (by omega) (by omega)
  · have e : (⟨(Lib.itoa 0).toArray⟩ : ByteArray) = ⟨#[48]⟩ := by decide +kernel
    rw [e]; exact rprint_zero w
  · obtain ⟨N, rfl⟩ := Int.eq_ofNat_of_zero_le (Int.le_of_lt h)
    have e : Lib.itoa (N : Int) = dgL N := by
      unfold Lib.itoa dgL
      rw [if_neg (by omega), if_neg (by omega), Int.toNat_natCast]
    rw [e]
    exact rprint_pos N (by omega) (by omega)

set_option maxRecDepth 100000 in
set_option maxHeartbeats 1000000 in
theorem rword_any {w : World} (n : ByteArray) (k : Int) (h0 : -9223372036854775808 ≤ k) (h1 : k ≤ 9223372036854775807) :
    Calls Tryd.prog 32 #[.agg #[.string n, .int .i64 k]] w fun e w' => e = .returned (.string (wordTx n k)) ∧ Below w.heap.size w w' := by
  have hb0 : Below w.heap.size w (w.alloc (.cells #[.string n, .int .i64 k] 32)) := (Below.refl _ w).alloc (Nat.le_refl _) _
  have HB0 := Lib.hid hb0
  have he := empty_list n
  clear hb0
  by_cases hz : n.size = 0
  · rw [decide_eq_true hz] at he
    have HW : Hid (wordTx n k = ⟨(Lib.itoa k).toArray⟩) := by unfold Hid wordTx; rw [if_pos hz]
    rw [HW.out]
    have HP := Lib.hid (fun W => rprint_any W k h0 h1)
    clear hz
    go_enter Tryd.func32, Tryd.ntmps32
    go_wp2_with fail
    refine (HP.out _).mono ?_
    rintro e w2 ⟨rfl, hb2⟩
    have HB2 := Lib.hid (HB0.out.trans (hb2.mono HB0.out.size))
    clear hb2
    go_wp2
    go_ret
    exact ⟨rfl, HB2.out⟩
  · rw [decide_eq_false hz] at he
    have HW : Hid (wordTx n k = n) := by unfold Hid wordTx; rw [if_neg hz]
    rw [HW.out]
    clear hz
    go_enter Tryd.func32, Tryd.ntmps32
    go_wp2
    go_ret
    exact ⟨rfl, HB0.out⟩

end Go.Proofs.YthhjepgcbfmfeaaDoor
