/- Contracts of warderref06's Name and named. -/
import Derived.Test.YthhjepgcbfmfeaaDoorShow9c
namespace Go.Proofs.YthhjepgcbfmfeaaDoor
open Go.RowKit

theorem nameOK_0 {s : ByteArray} (h : s.size = 0) : nameOK s = false := by rw [nameOK_end (NameTo.zero s) (by omega), decide_eq_false (by omega)]; rfl
theorem nameOK_17 {s : ByteArray} (h : 16 < s.size) : nameOK s = false := by unfold nameOK; rw [decide_eq_false (show ¬ s.size ≤ 16 by omega)]; simp
theorem nameOK_kn {s : ByteArray} (h : knownB s = true) : nameOK s = false := by unfold nameOK; rw [h]; simp

set_option maxRecDepth 100000 in
set_option maxHeartbeats 2000000 in
theorem rname_any (s : ByteArray) (w : World) :
    Calls Tryd.prog 10 #[.string s] w fun e w' => e = .returned (.bool (nameOK s)) ∧ Below w.heap.size w w' := by
  have he := empty_list s
  by_cases h0 : s.size = 0
  · rw [decide_eq_true h0] at he
    have HF := Lib.hid (nameOK_0 h0)
    rw [HF.out]
    clear h0
    go_enter Tryd.func10, Tryd.ntmps10
    go_wp2
    go_ret
    exact ⟨rfl, Below.refl _ _⟩
  rw [decide_eq_false h0] at he
  by_cases h17 : 16 < s.size
  · have HF := Lib.hid (nameOK_17 h17)
    rw [HF.out]
    have hz : (16 : Int) < (s.size : Int) := by omega
    clear h0 h17
    go_enter Tryd.func10, Tryd.ntmps10
    go_wp2
    go_ret
    exact ⟨rfl, Below.refl _ _⟩
  have hz : ¬ (16 : Int) < (s.size : Int) := by omega
  have HKN := Lib.hid (rknown_any s w)
  have HE : Hid (knownB s = false → NameTo s s.size → nameOK s = true) := by
    intro hk hn
    rw [nameOK_end hn (Nat.le_refl _), hk, decide_eq_true (by omega), decide_eq_true (by omega)]; rfl
  have HKF : Hid (knownB s = true → nameOK s = false) := nameOK_kn
  have hsz : s.size ≤ 16 := by omega
  obtain ⟨kn, hkn⟩ : ∃ k, knownB s = k := ⟨_, rfl⟩
  rw [hkn] at HKN HE HKF
  clear h0 h17 hkn
  go_enter Tryd.func10, Tryd.ntmps10
  go_wp2_with fail
  refine HKN.out.mono ?_
  rintro e w1 ⟨rfl, hb1⟩
  have HB1 := Lib.hid hb1
  clear hb1
  cases kn
  · go_wp2
    go_loop [3] (fun i => ∃ k : Nat, k ≤ s.size ∧ i = .int .i64 k ∧ Hid (NameTo s k)) (fun i => s.size - (intOf i).toNat)
    case atStart => exact ⟨0, Nat.zero_le _, by go_num, NameTo.zero s⟩
    case round =>
      obtain ⟨k, hk, rfl, HN⟩ := hrel
      by_cases hlt : k < s.size
      · have HY : Hid (nameRune (decide (k = 0)) (((s[k]'hlt).toNat : Nat) : Int) = true → NameTo s (k + 1)) := by
          intro hr; rw [← nameByte_rune] at hr; exact HN.out.next hlt hr
        have HX : Hid (nameRune (decide (k = 0)) (((s[k]'hlt).toNat : Nat) : Int) = false → nameOK s = false) := by
          intro hr; rw [← nameByte_rune] at hr; exact nameOK_no (Lib.data_getElem? s k hlt) hr
        have hb0 : (s[k]'hlt).toNat < 256 := (s[k]'hlt).toNat_lt
        have hcell : s.data.toList[k]? = some (s[k]'hlt) := Lib.data_getElem? s k hlt
        obtain ⟨b, hbb⟩ : ∃ b, s[k]'hlt = b := ⟨_, rfl⟩
        rw [hbb] at hcell hb0 HY HX
        have hkz : (k : Int) < (s.size : Int) := by omega
        obtain ⟨c, hc⟩ : ∃ c : Int, ((b.toNat : Nat) : Int) = c := ⟨_, rfl⟩
        rw [hc] at HY HX
        have hc0 : 0 ≤ c := by omega
        have hc1 : c < 256 := by omega
        clear hb0 hk hz
        rcases (show c < 48 ∨ (48 ≤ c ∧ c ≤ 57) ∨ (58 ≤ c ∧ c ≠ 95 ∧ c < 97) ∨ c = 95 ∨ (97 ≤ c ∧ c ≤ 122) ∨ 122 < c by omega) with h | h | h | h | h | h
        · have f0 : decide ((97 : Int) ≤ c) = false := decide_eq_false (by omega)
          have f1 : decide ((48 : Int) ≤ c) = false := decide_eq_false (by omega)
          have f2 : (c == 95) = false := beq_eq_false_iff_ne.2 (by omega)
          rcases k with _ | q
          · skip
            have HQ := Lib.hid (HX.out (by unfold nameRune smallB digitB; simp; omega))
            clear HY HX h hc0 hc1 HE HKF
            go_wp2
            go_ret
            exact ⟨ret_bool HQ.out.symm, HB1.out⟩
          · have hq : (0 : Int) < (q : Int) + 1 := by omega
            have HQ := Lib.hid (HX.out (by unfold nameRune smallB digitB; simp; omega))
            clear HY HX h hc0 hc1 HE HKF
            go_wp2
            go_ret
            exact ⟨ret_bool HQ.out.symm, HB1.out⟩
        · have f0 : decide ((97 : Int) ≤ c) = false := decide_eq_false (by omega)
          have f1 : decide ((48 : Int) ≤ c) = true := decide_eq_true (by omega)
          have f2 : decide (c ≤ (57 : Int)) = true := decide_eq_true (by omega)
          rcases k with _ | q
          · skip
            have HQ := Lib.hid (HX.out (by unfold nameRune smallB digitB; simp; omega))
            clear HY HX h hc0 hc1 HE HKF
            go_wp2
            go_ret
            exact ⟨ret_bool HQ.out.symm, HB1.out⟩
          · have hq : (0 : Int) < (q : Int) + 1 := by omega
            have HQ := Lib.hid (HY.out (by unfold nameRune smallB digitB; simp; omega))
            clear HY HX h hc0 hc1 HE HKF
            go_wp2
            go_round
            case rel => exact ⟨q + 1 + 1, by omega, by go_num, HQ.out⟩
            case measure => simp [intOf]; omega
        · have f0 : decide ((97 : Int) ≤ c) = false := decide_eq_false (by omega)
          have f1 : decide ((48 : Int) ≤ c) = true := decide_eq_true (by omega)
          have f2 : decide (c ≤ (57 : Int)) = false := decide_eq_false (by omega)
          have f3 : (c == 95) = false := beq_eq_false_iff_ne.2 (by omega)
          rcases k with _ | q
          · skip
            have HQ := Lib.hid (HX.out (by unfold nameRune smallB digitB; simp; omega))
            clear HY HX h hc0 hc1 HE HKF
            go_wp2
            go_ret
            exact ⟨ret_bool HQ.out.symm, HB1.out⟩
          · have hq : (0 : Int) < (q : Int) + 1 := by omega
            have HQ := Lib.hid (HX.out (by unfold nameRune smallB digitB; simp; omega))
            clear HY HX h hc0 hc1 HE HKF
            go_wp2
            go_ret
            exact ⟨ret_bool HQ.out.symm, HB1.out⟩
        · have f0 : decide ((97 : Int) ≤ c) = false := decide_eq_false (by omega)
          have f1 : decide ((48 : Int) ≤ c) = true := decide_eq_true (by omega)
          have f2 : decide (c ≤ (57 : Int)) = false := decide_eq_false (by omega)
          have f3 : (c == 95) = true := beq_iff_eq.2 (by omega)
          rcases k with _ | q
          · skip
            have HQ := Lib.hid (HX.out (by unfold nameRune smallB digitB; simp; omega))
            clear HY HX h hc0 hc1 HE HKF
            go_wp2
            go_ret
            exact ⟨ret_bool HQ.out.symm, HB1.out⟩
          · have hq : (0 : Int) < (q : Int) + 1 := by omega
            have HQ := Lib.hid (HY.out (by unfold nameRune smallB digitB; simp; omega))
            clear HY HX h hc0 hc1 HE HKF
            go_wp2
            go_round
            case rel => exact ⟨q + 1 + 1, by omega, by go_num, HQ.out⟩
            case measure => simp [intOf]; omega
        · have f0 : decide ((97 : Int) ≤ c) = true := decide_eq_true (by omega)
          have f1 : decide (c ≤ (122 : Int)) = true := decide_eq_true (by omega)
          rcases k with _ | q
          · skip
            have HQ := Lib.hid (HY.out (by unfold nameRune smallB digitB; simp; omega))
            clear HY HX h hc0 hc1 HE HKF
            go_wp2
            go_round
            case rel => exact ⟨0 + 1, by omega, by go_num, HQ.out⟩
            case measure => simp [intOf]; omega
          · have hq : (0 : Int) < (q : Int) + 1 := by omega
            have HQ := Lib.hid (HY.out (by unfold nameRune smallB digitB; simp; omega))
            clear HY HX h hc0 hc1 HE HKF
            go_wp2
            go_round
            case rel => exact ⟨q + 1 + 1, by omega, by go_num, HQ.out⟩
            case measure => simp [intOf]; omega
        · have f0 : decide ((97 : Int) ≤ c) = true := decide_eq_true (by omega)
          have f1 : decide (c ≤ (122 : Int)) = false := decide_eq_false (by omega)
          have f2 : decide ((48 : Int) ≤ c) = true := decide_eq_true (by omega)
          have f3 : decide (c ≤ (57 : Int)) = false := decide_eq_false (by omega)
          have f4 : (c == 95) = false := beq_eq_false_iff_ne.2 (by omega)
          rcases k with _ | q
          · skip
            have HQ := Lib.hid (HX.out (by unfold nameRune smallB digitB; simp; omega))
            clear HY HX h hc0 hc1 HE HKF
            go_wp2
            go_ret
            exact ⟨ret_bool HQ.out.symm, HB1.out⟩
          · have hq : (0 : Int) < (q : Int) + 1 := by omega
            have HQ := Lib.hid (HX.out (by unfold nameRune smallB digitB; simp; omega))
            clear HY HX h hc0 hc1 HE HKF
            go_wp2
            go_ret
            exact ⟨ret_bool HQ.out.symm, HB1.out⟩
      · have hkl : k = s.size := by omega
        subst hkl
        have HF := Lib.hid (HE.out (by first | rfl | trivial) HN.out)
        go_wp2
        go_ret
        exact ⟨ret_bool HF.out.symm, HB1.out⟩
  · have HF := Lib.hid (HKF.out rfl)
    go_wp2
    go_ret
    exact ⟨ret_bool HF.out.symm, HB1.out⟩

set_option maxRecDepth 100000 in
set_option maxHeartbeats 2000000 in
theorem rnamed_cmp11 {w : World} (x : It) (hop : 3 ≤ x.op ∧ x.op ≤ 8) (h1 : x.ln.size = 0) (h2 : x.rn.size = 0) :
    Calls Tryd.prog 16 #[itVal x] w fun e w' => e = .returned (.bool (namedB x)) ∧ Below w.heap.size w w' := by
  have HP := Lib.hid (show namedB x = (true && true) from by rw [(atomTx_cmp hop).2]; unfold wordNm; rw [decide_eq_true h1, decide_eq_true h2]; simp)
  rw [HP.out]
  unfold itVal
  obtain ⟨W0, hW0⟩ : ∃ W, w.alloc (.cells #[.int .i64 x.op, .string x.ln, .int .i64 x.lnum, .string x.rn, .int .i64 x.rnum, .string x.name, .string x.user, .int .i64 x.line, .int .i64 x.col] 36) = W := ⟨_, rfl⟩
  have hA : Blk W0 w.heap.size #[.int .i64 x.op, .string x.ln, .int .i64 x.lnum, .string x.rn, .int .i64 x.rnum, .string x.name, .string x.user, .int .i64 x.line, .int .i64 x.col] 36 := by rw [← hW0]; exact Blk.new w _ _
  have hb0 : Below w.heap.size w W0 := by rw [← hW0]; exact (Below.refl _ w).alloc (Nat.le_refl _) _
  have HB0 := Lib.hid hb0
  have HKA := Lib.hid hA
  obtain ⟨p0, p1, p2, p3, p4, p5, p6, p7, p8⟩ := hA.nine
  have HN := Lib.hid (fun (s : ByteArray) (W : World) => rname_any s W)
  have d3 : decide ((3 : Int) ≤ x.op) = true := decide_eq_true (by omega)
  have d8 : decide (x.op ≤ (8 : Int)) = true := decide_eq_true (by omega)
  have d9 : decide ((9 : Int) ≤ x.op) = false := decide_eq_false (by omega)
  have d12 : (x.op == 12) = false := beq_eq_false_iff_ne.2 (by omega)
  have e1 := empty_list x.ln
  have e2 := empty_list x.rn
  rw [decide_eq_true h1] at e1
  rw [decide_eq_true h2] at e2
  clear h1 h2 hop
  clear HN
  have HK0 := HKA
  clear hA hb0
  go_enter Tryd.func16, Tryd.ntmps16
  go_upto_region 1 with fail
  clear hW0
  go_wp2
  go_ret
  exact ⟨rfl, HB0.out⟩

set_option maxRecDepth 100000 in
set_option maxHeartbeats 2000000 in
theorem rnamed_cmp10 {w : World} (x : It) (hop : 3 ≤ x.op ∧ x.op ≤ 8) (h1 : x.ln.size = 0) (h2 : x.rn.size ≠ 0) :
    Calls Tryd.prog 16 #[itVal x] w fun e w' => e = .returned (.bool (namedB x)) ∧ Below w.heap.size w w' := by
  have HP := Lib.hid (show namedB x = (true && nameOK x.rn) from by rw [(atomTx_cmp hop).2]; unfold wordNm; rw [decide_eq_true h1, decide_eq_false h2]; simp)
  rw [HP.out]
  unfold itVal
  obtain ⟨W0, hW0⟩ : ∃ W, w.alloc (.cells #[.int .i64 x.op, .string x.ln, .int .i64 x.lnum, .string x.rn, .int .i64 x.rnum, .string x.name, .string x.user, .int .i64 x.line, .int .i64 x.col] 36) = W := ⟨_, rfl⟩
  have hA : Blk W0 w.heap.size #[.int .i64 x.op, .string x.ln, .int .i64 x.lnum, .string x.rn, .int .i64 x.rnum, .string x.name, .string x.user, .int .i64 x.line, .int .i64 x.col] 36 := by rw [← hW0]; exact Blk.new w _ _
  have hb0 : Below w.heap.size w W0 := by rw [← hW0]; exact (Below.refl _ w).alloc (Nat.le_refl _) _
  have HB0 := Lib.hid hb0
  have HKA := Lib.hid hA
  obtain ⟨p0, p1, p2, p3, p4, p5, p6, p7, p8⟩ := hA.nine
  have HN := Lib.hid (fun (s : ByteArray) (W : World) => rname_any s W)
  have d3 : decide ((3 : Int) ≤ x.op) = true := decide_eq_true (by omega)
  have d8 : decide (x.op ≤ (8 : Int)) = true := decide_eq_true (by omega)
  have d9 : decide ((9 : Int) ≤ x.op) = false := decide_eq_false (by omega)
  have d12 : (x.op == 12) = false := beq_eq_false_iff_ne.2 (by omega)
  have e1 := empty_list x.ln
  have e2 := empty_list x.rn
  rw [decide_eq_true h1] at e1
  rw [decide_eq_false h2] at e2
  clear h1 h2 hop
  obtain ⟨q, hq⟩ : ∃ q, nameOK x.rn = q := ⟨_, rfl⟩
  have HNR : Hid (∀ W : World, Calls Tryd.prog 10 #[.string x.rn] W fun e w' => e = .returned (.bool q) ∧ Below W.heap.size W w') := by intro W; rw [← hq]; exact HN.out x.rn W
  rw [hq]
  clear hq
  clear HN
  have HK0 := HKA
  clear hA hb0
  go_enter Tryd.func16, Tryd.ntmps16
  go_upto_region 1 with fail
  clear hW0
  go_wp2_with fail
  refine (HNR.out _).mono ?_
  rintro en w1 ⟨rfl, hb1⟩
  have HB1 := Lib.hid (HB0.out.trans (hb1.mono HB0.out.size))
  have hk1 := HK0.out.keep hb1
  have HK1 := Lib.hid hk1
  obtain ⟨r10, r11, r12, r13, r14, r15, r16, r17, r18⟩ := hk1.nine
  clear hb1 hk1
  cases q
  all_goals
    go_wp2
    go_ret
    exact ⟨rfl, HB1.out⟩

set_option maxRecDepth 100000 in
set_option maxHeartbeats 2000000 in
theorem rnamed_cmp01 {w : World} (x : It) (hop : 3 ≤ x.op ∧ x.op ≤ 8) (h1 : x.ln.size ≠ 0) (h2 : x.rn.size = 0) :
    Calls Tryd.prog 16 #[itVal x] w fun e w' => e = .returned (.bool (namedB x)) ∧ Below w.heap.size w w' := by
  have HP := Lib.hid (show namedB x = (nameOK x.ln && true) from by rw [(atomTx_cmp hop).2]; unfold wordNm; rw [decide_eq_false h1, decide_eq_true h2]; simp)
  rw [HP.out]
  unfold itVal
  obtain ⟨W0, hW0⟩ : ∃ W, w.alloc (.cells #[.int .i64 x.op, .string x.ln, .int .i64 x.lnum, .string x.rn, .int .i64 x.rnum, .string x.name, .string x.user, .int .i64 x.line, .int .i64 x.col] 36) = W := ⟨_, rfl⟩
  have hA : Blk W0 w.heap.size #[.int .i64 x.op, .string x.ln, .int .i64 x.lnum, .string x.rn, .int .i64 x.rnum, .string x.name, .string x.user, .int .i64 x.line, .int .i64 x.col] 36 := by rw [← hW0]; exact Blk.new w _ _
  have hb0 : Below w.heap.size w W0 := by rw [← hW0]; exact (Below.refl _ w).alloc (Nat.le_refl _) _
  have HB0 := Lib.hid hb0
  have HKA := Lib.hid hA
  obtain ⟨p0, p1, p2, p3, p4, p5, p6, p7, p8⟩ := hA.nine
  have HN := Lib.hid (fun (s : ByteArray) (W : World) => rname_any s W)
  have d3 : decide ((3 : Int) ≤ x.op) = true := decide_eq_true (by omega)
  have d8 : decide (x.op ≤ (8 : Int)) = true := decide_eq_true (by omega)
  have d9 : decide ((9 : Int) ≤ x.op) = false := decide_eq_false (by omega)
  have d12 : (x.op == 12) = false := beq_eq_false_iff_ne.2 (by omega)
  have e1 := empty_list x.ln
  have e2 := empty_list x.rn
  rw [decide_eq_false h1] at e1
  rw [decide_eq_true h2] at e2
  clear h1 h2 hop
  obtain ⟨p, hp⟩ : ∃ p, nameOK x.ln = p := ⟨_, rfl⟩
  have HNL : Hid (∀ W : World, Calls Tryd.prog 10 #[.string x.ln] W fun e w' => e = .returned (.bool p) ∧ Below W.heap.size W w') := by intro W; rw [← hp]; exact HN.out x.ln W
  rw [hp]
  clear hp
  clear HN
  have HK0 := HKA
  clear hA hb0
  go_enter Tryd.func16, Tryd.ntmps16
  go_upto_region 1 with fail
  clear hW0
  go_wp2_with fail
  refine (HNL.out _).mono ?_
  rintro en w1 ⟨rfl, hb1⟩
  have HB1 := Lib.hid (HB0.out.trans (hb1.mono HB0.out.size))
  have hk1 := HK0.out.keep hb1
  have HK1 := Lib.hid hk1
  obtain ⟨r10, r11, r12, r13, r14, r15, r16, r17, r18⟩ := hk1.nine
  clear hb1 hk1
  cases p
  all_goals
    go_wp2
    go_ret
    exact ⟨rfl, HB1.out⟩

set_option maxRecDepth 100000 in
set_option maxHeartbeats 2000000 in
theorem rnamed_cmp00 {w : World} (x : It) (hop : 3 ≤ x.op ∧ x.op ≤ 8) (h1 : x.ln.size ≠ 0) (h2 : x.rn.size ≠ 0) :
    Calls Tryd.prog 16 #[itVal x] w fun e w' => e = .returned (.bool (namedB x)) ∧ Below w.heap.size w w' := by
  have HP := Lib.hid (show namedB x = (nameOK x.ln && nameOK x.rn) from by rw [(atomTx_cmp hop).2]; unfold wordNm; rw [decide_eq_false h1, decide_eq_false h2]; simp)
  rw [HP.out]
  unfold itVal
  obtain ⟨W0, hW0⟩ : ∃ W, w.alloc (.cells #[.int .i64 x.op, .string x.ln, .int .i64 x.lnum, .string x.rn, .int .i64 x.rnum, .string x.name, .string x.user, .int .i64 x.line, .int .i64 x.col] 36) = W := ⟨_, rfl⟩
  have hA : Blk W0 w.heap.size #[.int .i64 x.op, .string x.ln, .int .i64 x.lnum, .string x.rn, .int .i64 x.rnum, .string x.name, .string x.user, .int .i64 x.line, .int .i64 x.col] 36 := by rw [← hW0]; exact Blk.new w _ _
  have hb0 : Below w.heap.size w W0 := by rw [← hW0]; exact (Below.refl _ w).alloc (Nat.le_refl _) _
  have HB0 := Lib.hid hb0
  have HKA := Lib.hid hA
  obtain ⟨p0, p1, p2, p3, p4, p5, p6, p7, p8⟩ := hA.nine
  have HN := Lib.hid (fun (s : ByteArray) (W : World) => rname_any s W)
  have d3 : decide ((3 : Int) ≤ x.op) = true := decide_eq_true (by omega)
  have d8 : decide (x.op ≤ (8 : Int)) = true := decide_eq_true (by omega)
  have d9 : decide ((9 : Int) ≤ x.op) = false := decide_eq_false (by omega)
  have d12 : (x.op == 12) = false := beq_eq_false_iff_ne.2 (by omega)
  have e1 := empty_list x.ln
  have e2 := empty_list x.rn
  rw [decide_eq_false h1] at e1
  rw [decide_eq_false h2] at e2
  clear h1 h2 hop
  obtain ⟨p, hp⟩ : ∃ p, nameOK x.ln = p := ⟨_, rfl⟩
  have HNL : Hid (∀ W : World, Calls Tryd.prog 10 #[.string x.ln] W fun e w' => e = .returned (.bool p) ∧ Below W.heap.size W w') := by intro W; rw [← hp]; exact HN.out x.ln W
  rw [hp]
  clear hp
  obtain ⟨q, hq⟩ : ∃ q, nameOK x.rn = q := ⟨_, rfl⟩
  have HNR : Hid (∀ W : World, Calls Tryd.prog 10 #[.string x.rn] W fun e w' => e = .returned (.bool q) ∧ Below W.heap.size W w') := by intro W; rw [← hq]; exact HN.out x.rn W
  rw [hq]
  clear hq
  clear HN
  have HK0 := HKA
  clear hA hb0
  go_enter Tryd.func16, Tryd.ntmps16
  go_upto_region 1 with fail
  clear hW0
  go_wp2_with fail
  refine (HNL.out _).mono ?_
  rintro en w1 ⟨rfl, hb1⟩
  have HB1 := Lib.hid (HB0.out.trans (hb1.mono HB0.out.size))
  have hk1 := HK0.out.keep hb1
  have HK1 := Lib.hid hk1
  obtain ⟨r10, r11, r12, r13, r14, r15, r16, r17, r18⟩ := hk1.nine
  clear hb1 hk1
  cases p
  · go_wp2
    go_ret
    exact ⟨rfl, HB1.out⟩
  · go_wp2_with fail
    refine (HNR.out _).mono ?_
    rintro en w2 ⟨rfl, hb2⟩
    have HB2 := Lib.hid (HB1.out.trans (hb2.mono HB1.out.size))
    have hk2 := HK1.out.keep hb2
    have HK2 := Lib.hid hk2
    obtain ⟨r20, r21, r22, r23, r24, r25, r26, r27, r28⟩ := hk2.nine
    clear hb2 hk2
    cases q
    all_goals
      go_wp2
      go_ret
      exact ⟨rfl, HB2.out⟩

set_option maxRecDepth 100000 in
set_option maxHeartbeats 2000000 in
theorem rnamed_of {w : World} (x : It) (hop : 9 ≤ x.op ∧ x.op ≤ 11) :
    Calls Tryd.prog 16 #[itVal x] w fun e w' => e = .returned (.bool (namedB x)) ∧ Below w.heap.size w w' := by
  have HP := Lib.hid (show namedB x = nameOK x.name from (atomTx_of hop).2)
  rw [HP.out]
  unfold itVal
  obtain ⟨W0, hW0⟩ : ∃ W, w.alloc (.cells #[.int .i64 x.op, .string x.ln, .int .i64 x.lnum, .string x.rn, .int .i64 x.rnum, .string x.name, .string x.user, .int .i64 x.line, .int .i64 x.col] 36) = W := ⟨_, rfl⟩
  have hA : Blk W0 w.heap.size #[.int .i64 x.op, .string x.ln, .int .i64 x.lnum, .string x.rn, .int .i64 x.rnum, .string x.name, .string x.user, .int .i64 x.line, .int .i64 x.col] 36 := by rw [← hW0]; exact Blk.new w _ _
  have hb0 : Below w.heap.size w W0 := by rw [← hW0]; exact (Below.refl _ w).alloc (Nat.le_refl _) _
  have HB0 := Lib.hid hb0
  have HKA := Lib.hid hA
  obtain ⟨p0, p1, p2, p3, p4, p5, p6, p7, p8⟩ := hA.nine
  have HN := Lib.hid (fun (s : ByteArray) (W : World) => rname_any s W)
  have d3 : decide ((3 : Int) ≤ x.op) = true := decide_eq_true (by omega)
  have d8 : decide (x.op ≤ (8 : Int)) = false := decide_eq_false (by omega)
  have d9 : decide ((9 : Int) ≤ x.op) = true := decide_eq_true (by omega)
  have d12 : decide (x.op ≤ (12 : Int)) = true := decide_eq_true (by omega)
  have d13 : (x.op == 12) = false := beq_eq_false_iff_ne.2 (by omega)
  clear hop
  have HK0 := HKA
  clear hA hb0
  go_enter Tryd.func16, Tryd.ntmps16
  go_upto_region 1 with fail
  clear hW0
  go_wp2_with fail
  refine (HN.out x.name _).mono ?_
  rintro en w1 ⟨rfl, hb1⟩
  have HB1 := Lib.hid (HB0.out.trans (hb1.mono HB0.out.size))
  have hk1 := HK0.out.keep hb1
  have HK1 := Lib.hid hk1
  obtain ⟨r10, r11, r12, r13, r14, r15, r16, r17, r18⟩ := hk1.nine
  clear hb1 hk1
  go_wp2
  go_ret
  exact ⟨rfl, HB1.out⟩

set_option maxRecDepth 100000 in
set_option maxHeartbeats 2000000 in
theorem rnamed_did {w : World} (x : It) (hop : x.op = 12) :
    Calls Tryd.prog 16 #[itVal x] w fun e w' => e = .returned (.bool (namedB x)) ∧ Below w.heap.size w w' := by
  have HP := Lib.hid (show namedB x = (nameOK x.user && nameOK x.name) from (atomTx_did hop).2)
  rw [HP.out]
  unfold itVal
  obtain ⟨W0, hW0⟩ : ∃ W, w.alloc (.cells #[.int .i64 x.op, .string x.ln, .int .i64 x.lnum, .string x.rn, .int .i64 x.rnum, .string x.name, .string x.user, .int .i64 x.line, .int .i64 x.col] 36) = W := ⟨_, rfl⟩
  have hA : Blk W0 w.heap.size #[.int .i64 x.op, .string x.ln, .int .i64 x.lnum, .string x.rn, .int .i64 x.rnum, .string x.name, .string x.user, .int .i64 x.line, .int .i64 x.col] 36 := by rw [← hW0]; exact Blk.new w _ _
  have hb0 : Below w.heap.size w W0 := by rw [← hW0]; exact (Below.refl _ w).alloc (Nat.le_refl _) _
  have HB0 := Lib.hid hb0
  have HKA := Lib.hid hA
  obtain ⟨p0, p1, p2, p3, p4, p5, p6, p7, p8⟩ := hA.nine
  have HN := Lib.hid (fun (s : ByteArray) (W : World) => rname_any s W)
  have d3 : decide ((3 : Int) ≤ x.op) = true := decide_eq_true (by omega)
  have d8 : decide (x.op ≤ (8 : Int)) = false := decide_eq_false (by omega)
  have d9 : decide ((9 : Int) ≤ x.op) = true := decide_eq_true (by omega)
  have d12 : decide (x.op ≤ (12 : Int)) = true := decide_eq_true (by omega)
  have d13 : (x.op == 12) = true := beq_iff_eq.2 (by omega)
  obtain ⟨p, hp⟩ : ∃ p, nameOK x.name = p := ⟨_, rfl⟩
  have HNL : Hid (∀ W : World, Calls Tryd.prog 10 #[.string x.name] W fun e w' => e = .returned (.bool p) ∧ Below W.heap.size W w') := by intro W; rw [← hp]; exact HN.out x.name W
  rw [hp]
  clear hp hop
  have HK0 := HKA
  clear hA hb0
  go_enter Tryd.func16, Tryd.ntmps16
  go_upto_region 1 with fail
  clear hW0
  go_wp2_with fail
  refine (HNL.out _).mono ?_
  rintro en w1 ⟨rfl, hb1⟩
  have HB1 := Lib.hid (HB0.out.trans (hb1.mono HB0.out.size))
  have hk1 := HK0.out.keep hb1
  have HK1 := Lib.hid hk1
  obtain ⟨r10, r11, r12, r13, r14, r15, r16, r17, r18⟩ := hk1.nine
  clear hb1 hk1
  cases p
  · go_wp2
    go_ret
    exact ⟨ret_bool (Bool.and_false _).symm, HB1.out⟩
  · go_wp2_with fail
    refine (HN.out x.user _).mono ?_
    rintro en w2 ⟨rfl, hb2⟩
    have HB2 := Lib.hid (HB1.out.trans (hb2.mono HB1.out.size))
    have hk2 := HK1.out.keep hb2
    have HK2 := Lib.hid hk2
    obtain ⟨r20, r21, r22, r23, r24, r25, r26, r27, r28⟩ := hk2.nine
    clear hb2 hk2
    go_wp2
    go_ret
    exact ⟨ret_bool (Bool.and_true _).symm, HB2.out⟩

set_option maxRecDepth 100000 in
set_option maxHeartbeats 2000000 in
theorem rnamed_low {w : World} (x : It) (hop : x.op < 3) :
    Calls Tryd.prog 16 #[itVal x] w fun e w' => e = .returned (.bool (namedB x)) ∧ Below w.heap.size w w' := by
  have HP := Lib.hid (show namedB x = true from (atomTx_else (x := x) (by omega)).2)
  rw [HP.out]
  unfold itVal
  obtain ⟨W0, hW0⟩ : ∃ W, w.alloc (.cells #[.int .i64 x.op, .string x.ln, .int .i64 x.lnum, .string x.rn, .int .i64 x.rnum, .string x.name, .string x.user, .int .i64 x.line, .int .i64 x.col] 36) = W := ⟨_, rfl⟩
  have hA : Blk W0 w.heap.size #[.int .i64 x.op, .string x.ln, .int .i64 x.lnum, .string x.rn, .int .i64 x.rnum, .string x.name, .string x.user, .int .i64 x.line, .int .i64 x.col] 36 := by rw [← hW0]; exact Blk.new w _ _
  have hb0 : Below w.heap.size w W0 := by rw [← hW0]; exact (Below.refl _ w).alloc (Nat.le_refl _) _
  have HB0 := Lib.hid hb0
  have HKA := Lib.hid hA
  obtain ⟨p0, p1, p2, p3, p4, p5, p6, p7, p8⟩ := hA.nine
  have HN := Lib.hid (fun (s : ByteArray) (W : World) => rname_any s W)
  have d3 : decide ((3 : Int) ≤ x.op) = false := decide_eq_false (by omega)
  have d9 : decide ((9 : Int) ≤ x.op) = false := decide_eq_false (by omega)
  have d13 : (x.op == 12) = false := beq_eq_false_iff_ne.2 (by omega)
  clear hop HN
  clear hA hb0
  go_enter Tryd.func16, Tryd.ntmps16
  go_upto_region 1 with fail
  clear hW0
  go_wp2
  go_ret
  exact ⟨rfl, HB0.out⟩

set_option maxRecDepth 100000 in
set_option maxHeartbeats 2000000 in
theorem rnamed_high {w : World} (x : It) (hop : 12 < x.op) :
    Calls Tryd.prog 16 #[itVal x] w fun e w' => e = .returned (.bool (namedB x)) ∧ Below w.heap.size w w' := by
  have HP := Lib.hid (show namedB x = true from (atomTx_else (x := x) (by omega)).2)
  rw [HP.out]
  unfold itVal
  obtain ⟨W0, hW0⟩ : ∃ W, w.alloc (.cells #[.int .i64 x.op, .string x.ln, .int .i64 x.lnum, .string x.rn, .int .i64 x.rnum, .string x.name, .string x.user, .int .i64 x.line, .int .i64 x.col] 36) = W := ⟨_, rfl⟩
  have hA : Blk W0 w.heap.size #[.int .i64 x.op, .string x.ln, .int .i64 x.lnum, .string x.rn, .int .i64 x.rnum, .string x.name, .string x.user, .int .i64 x.line, .int .i64 x.col] 36 := by rw [← hW0]; exact Blk.new w _ _
  have hb0 : Below w.heap.size w W0 := by rw [← hW0]; exact (Below.refl _ w).alloc (Nat.le_refl _) _
  have HB0 := Lib.hid hb0
  have HKA := Lib.hid hA
  obtain ⟨p0, p1, p2, p3, p4, p5, p6, p7, p8⟩ := hA.nine
  have HN := Lib.hid (fun (s : ByteArray) (W : World) => rname_any s W)
  have d3 : decide ((3 : Int) ≤ x.op) = true := decide_eq_true (by omega)
  have d8 : decide (x.op ≤ (8 : Int)) = false := decide_eq_false (by omega)
  have d9 : decide ((9 : Int) ≤ x.op) = true := decide_eq_true (by omega)
  have d12 : decide (x.op ≤ (12 : Int)) = false := decide_eq_false (by omega)
  have d13 : (x.op == 12) = false := beq_eq_false_iff_ne.2 (by omega)
  clear hop HN
  clear hA hb0
  go_enter Tryd.func16, Tryd.ntmps16
  go_upto_region 1 with fail
  clear hW0
  go_wp2
  go_ret
  exact ⟨rfl, HB0.out⟩

theorem rnamed_any {w : World} (x : It) :
    Calls Tryd.prog 16 #[itVal x] w fun e w' => e = .returned (.bool (namedB x)) ∧ Below w.heap.size w w' := by
  rcases (show x.op < 3 ∨ (3 ≤ x.op ∧ x.op ≤ 8) ∨ (9 ≤ x.op ∧ x.op ≤ 11) ∨ x.op = 12 ∨ 12 < x.op by omega) with h | h | h | h | h
  · exact rnamed_low x h
  · by_cases h1 : x.ln.size = 0
    · by_cases h2 : x.rn.size = 0
      · exact rnamed_cmp11 x h h1 h2
      · exact rnamed_cmp10 x h h1 h2
    · by_cases h2 : x.rn.size = 0
      · exact rnamed_cmp01 x h h1 h2
      · exact rnamed_cmp00 x h h1 h2
  · exact rnamed_of x h
  · exact rnamed_did x h
  · exact rnamed_high x h

end Go.Proofs.YthhjepgcbfmfeaaDoor
