/- Contract of show's atom. -/
import Derived.Test.YthhjepgcbfmfeaaGreatDoorSb27
import Derived.Test.YthhjepgcbfmfeaaGreatDoorSb29

namespace Go.Proofs.YthhjepgcbfmfeaaGreatDoor
open Go.RowKit

/-- an item's box -/
def itA (x : It) : Array Value := #[.int .i64 x.op, .string x.ln, .int .i64 x.lnum, .string x.rn, .int .i64 x.rnum, .string x.name, .string x.user, .int .i64 x.line, .int .i64 x.col]
theorem atomTx_cmp {x : It} (h : 3 ≤ x.op ∧ x.op ≤ 8) : atomTx x = wordTx x.ln x.lnum ++ sp8 ++ signB x.op ++ sp8 ++ wordTx x.rn x.rnum ∧ namedB x = (wordNm x.ln && wordNm x.rn) := by
  exact ⟨by unfold atomTx; rw [if_pos h], by unfold namedB; rw [if_pos h]⟩
theorem atomTx_did {x : It} (h : x.op = 12) : atomTx x = signB 12 ++ sp8 ++ x.user ++ sp8 ++ x.name ∧ namedB x = (nameOK x.user && nameOK x.name) := by
  exact ⟨by unfold atomTx; rw [if_neg (by omega), if_pos h], by unfold namedB; rw [if_neg (by omega), if_pos h]⟩
theorem atomTx_of {x : It} (h : 9 ≤ x.op ∧ x.op ≤ 11) : atomTx x = signB x.op ++ sp8 ++ x.name ∧ namedB x = nameOK x.name := by
  exact ⟨by unfold atomTx; rw [if_neg (by omega), if_neg (by omega), if_pos h], by unfold namedB; rw [if_neg (by omega), if_neg (by omega), if_pos h]⟩
theorem atomTx_else {x : It} (h : x.op < 3 ∨ 12 < x.op) : atomTx x = signB x.op ∧ namedB x = true := by
  exact ⟨by unfold atomTx; rw [if_neg (by omega), if_neg (by omega), if_neg (by omega)], by unfold namedB; rw [if_neg (by omega), if_neg (by omega), if_neg (by omega)]⟩

set_option maxRecDepth 100000 in
set_option maxHeartbeats 4000000 in
theorem atom_cmp {w : World} (ht : Tabs w) (x : It) (hs : Short x) (hop : 3 ≤ x.op ∧ x.op ≤ 8) :
    Calls Tryz.prog 22 #[itVal x] w fun e w' => e = .returned (.tuple #[.string (atomTx x), .bool (namedB x)]) ∧ Below w.heap.size w w' := by
  obtain ⟨hs1, hs2, hs3, hs4, hs5, hs6⟩ := hs
  have HP := Lib.hid (atomTx_cmp hop)
  rw [HP.out.1, HP.out.2]
  unfold itVal
  obtain ⟨W0, hW0⟩ : ∃ W, w.alloc (.cells #[.int .i64 x.op, .string x.ln, .int .i64 x.lnum, .string x.rn, .int .i64 x.rnum, .string x.name, .string x.user, .int .i64 x.line, .int .i64 x.col] 39) = W := ⟨_, rfl⟩
  have hA : Blk W0 w.heap.size #[.int .i64 x.op, .string x.ln, .int .i64 x.lnum, .string x.rn, .int .i64 x.rnum, .string x.name, .string x.user, .int .i64 x.line, .int .i64 x.col] 39 := by rw [← hW0]; exact Blk.new w _ _
  have hb0 : Below w.heap.size w W0 := by rw [← hW0]; exact (Below.refl _ w).alloc (Nat.le_refl _) _
  have HB0 := Lib.hid hb0
  have HT0 := Lib.hid (ht.keep hb0)
  have HS := Lib.hid (sh_sign_any HT0.out x.op)
  obtain ⟨sg, hsg⟩ : ∃ s, signB x.op = s := ⟨_, rfl⟩
  have hsgl : sg.size ≤ 8 := by rw [← hsg]; exact signB_size x.op
  rw [hsg] at HS HP ⊢
  have HKA := Lib.hid hA
  obtain ⟨a0, a1, a2, a3, a4, a5, a6, a7, a8⟩ := hA.nine
  have d1 : decide ((3 : Int) ≤ x.op) = true := decide_eq_true hop.1
  have d2 : decide (x.op ≤ (8 : Int)) = true := decide_eq_true hop.2
  have HW := Lib.hid (fun (W : World) (h : Tabs W) => sh_word_any h x.ln x.lnum hs5.1 hs5.2 (by omega))
  have HV := Lib.hid (fun (W : World) (h : Tabs W) => sh_word_any h x.rn x.rnum hs6.1 hs6.2 (by omega))
  obtain ⟨u, hu⟩ : ∃ s, wordTx x.ln x.lnum = s := ⟨_, rfl⟩
  have hul : u.size ≤ 60 := by rw [← hu]; exact wordTx_size hs1 hs5
  obtain ⟨v, hv⟩ : ∃ s, wordTx x.rn x.rnum = s := ⟨_, rfl⟩
  have hvl : v.size ≤ 60 := by rw [← hv]; exact wordTx_size hs2 hs6
  obtain ⟨p, hp⟩ : ∃ s, wordNm x.ln = s := ⟨_, rfl⟩
  obtain ⟨q, hq⟩ : ∃ s, wordNm x.rn = s := ⟨_, rfl⟩
  rw [hu, hp] at HW
  rw [hv, hq] at HV
  rw [hu, hv, hp, hq] at HP ⊢
  clear hu hv hp hq hop
  have n1 : ¬ 9223372036854775807 < u.size + 1 := by omega
  have n2 : ¬ 9223372036854775807 < u.size + 1 + sg.size := by omega
  have n3 : ¬ 9223372036854775807 < u.size + 1 + sg.size + 1 := by omega
  have n4 : ¬ 9223372036854775807 < u.size + 1 + sg.size + 1 + v.size := by omega
  clear ht hsg hA hb0
  go_enter Tryz.func22, Tryz.ntmps22
  go_upto_region 1 with fail
  clear hW0
  go_wp2_with fail
  refine HS.out.mono ?_
  rintro e w1 ⟨rfl, hb1⟩
  have HB1 := Lib.hid (HB0.out.trans (hb1.mono HB0.out.size))
  have HT1 := Lib.hid (HT0.out.keep hb1)
  have hk1 := HKA.out.keep hb1
  have HK1 := Lib.hid hk1
  obtain ⟨b0, b1, b2, b3, b4, b5, b6, b7, b8⟩ := hk1.nine
  clear a0 a1 a2 a3 a4 a5 a6 a7 a8 hb1 hk1
  clear hs5 hs6
  go_wp2_with fail
  refine (HW.out _ HT1.out).mono ?_
  rintro e w2 ⟨rfl, hb2⟩
  have HB2 := Lib.hid (HB1.out.trans (hb2.mono HB1.out.size))
  have HT2 := Lib.hid (HT1.out.keep hb2)
  have hk2 := HK1.out.keep hb2
  obtain ⟨c0, c1, c2, c3, c4, c5, c6, c7, c8⟩ := hk2.nine
  clear b0 b1 b2 b3 b4 b5 b6 b7 b8 hb2 hk2
  go_wp2_with fail
  refine (HV.out _ HT2.out).mono ?_
  rintro e w3 ⟨rfl, hb3⟩
  have HB3 := Lib.hid (HB2.out.trans (hb3.mono HB2.out.size))
  clear hb3
  cases p
  all_goals
    go_wp2
    go_ret2
    exact ⟨rfl, HB3.out⟩

set_option maxRecDepth 100000 in
set_option maxHeartbeats 4000000 in
theorem atom_1 {w : World} (ht : Tabs w) (x : It) (hs : Short x) (hop : x.op = 1) :
    Calls Tryz.prog 22 #[itVal x] w fun e w' => e = .returned (.tuple #[.string (atomTx x), .bool (namedB x)]) ∧ Below w.heap.size w w' := by
  obtain ⟨hs1, hs2, hs3, hs4, hs5, hs6⟩ := hs
  have HP := Lib.hid ((show atomTx x = signB 1 ∧ namedB x = true by have h2 := atomTx_else (x := x) (by omega); rw [hop] at h2; exact h2))
  rw [HP.out.1, HP.out.2]
  unfold itVal
  obtain ⟨W0, hW0⟩ : ∃ W, w.alloc (.cells #[.int .i64 x.op, .string x.ln, .int .i64 x.lnum, .string x.rn, .int .i64 x.rnum, .string x.name, .string x.user, .int .i64 x.line, .int .i64 x.col] 39) = W := ⟨_, rfl⟩
  have hA : Blk W0 w.heap.size #[.int .i64 x.op, .string x.ln, .int .i64 x.lnum, .string x.rn, .int .i64 x.rnum, .string x.name, .string x.user, .int .i64 x.line, .int .i64 x.col] 39 := by rw [← hW0]; exact Blk.new w _ _
  have hb0 : Below w.heap.size w W0 := by rw [← hW0]; exact (Below.refl _ w).alloc (Nat.le_refl _) _
  have HB0 := Lib.hid hb0
  have HT0 := Lib.hid (ht.keep hb0)
  have HS := Lib.hid (sh_sign_any HT0.out 1)
  obtain ⟨sg, hsg⟩ : ∃ s, signB 1 = s := ⟨_, rfl⟩
  have hsgl : sg.size ≤ 8 := by rw [← hsg]; exact signB_size 1
  rw [hsg] at HS HP ⊢
  have HKA := Lib.hid hA
  obtain ⟨a0, a1, a2, a3, a4, a5, a6, a7, a8⟩ := hA.nine
  have HO := Lib.hid hop
  rw [hop] at a0
  clear ht hsg hA hb0 hop
  go_enter Tryz.func22, Tryz.ntmps22
  go_upto_region 1 with fail
  clear hW0
  go_wp2_with fail
  refine HS.out.mono ?_
  rintro e w1 ⟨rfl, hb1⟩
  have HB1 := Lib.hid (HB0.out.trans (hb1.mono HB0.out.size))
  have HT1 := Lib.hid (HT0.out.keep hb1)
  have hk1 := HKA.out.keep hb1
  have HK1 := Lib.hid hk1
  obtain ⟨b0, b1, b2, b3, b4, b5, b6, b7, b8⟩ := hk1.nine
  rw [HO.out] at b0
  clear a0 a1 a2 a3 a4 a5 a6 a7 a8 hb1 hk1
  go_wp2
  go_ret2
  exact ⟨rfl, HB1.out⟩

set_option maxRecDepth 100000 in
set_option maxHeartbeats 4000000 in
theorem atom_2 {w : World} (ht : Tabs w) (x : It) (hs : Short x) (hop : x.op = 2) :
    Calls Tryz.prog 22 #[itVal x] w fun e w' => e = .returned (.tuple #[.string (atomTx x), .bool (namedB x)]) ∧ Below w.heap.size w w' := by
  obtain ⟨hs1, hs2, hs3, hs4, hs5, hs6⟩ := hs
  have HP := Lib.hid ((show atomTx x = signB 2 ∧ namedB x = true by have h2 := atomTx_else (x := x) (by omega); rw [hop] at h2; exact h2))
  rw [HP.out.1, HP.out.2]
  unfold itVal
  obtain ⟨W0, hW0⟩ : ∃ W, w.alloc (.cells #[.int .i64 x.op, .string x.ln, .int .i64 x.lnum, .string x.rn, .int .i64 x.rnum, .string x.name, .string x.user, .int .i64 x.line, .int .i64 x.col] 39) = W := ⟨_, rfl⟩
  have hA : Blk W0 w.heap.size #[.int .i64 x.op, .string x.ln, .int .i64 x.lnum, .string x.rn, .int .i64 x.rnum, .string x.name, .string x.user, .int .i64 x.line, .int .i64 x.col] 39 := by rw [← hW0]; exact Blk.new w _ _
  have hb0 : Below w.heap.size w W0 := by rw [← hW0]; exact (Below.refl _ w).alloc (Nat.le_refl _) _
  have HB0 := Lib.hid hb0
  have HT0 := Lib.hid (ht.keep hb0)
  have HS := Lib.hid (sh_sign_any HT0.out 2)
  obtain ⟨sg, hsg⟩ : ∃ s, signB 2 = s := ⟨_, rfl⟩
  have hsgl : sg.size ≤ 8 := by rw [← hsg]; exact signB_size 2
  rw [hsg] at HS HP ⊢
  have HKA := Lib.hid hA
  obtain ⟨a0, a1, a2, a3, a4, a5, a6, a7, a8⟩ := hA.nine
  have HO := Lib.hid hop
  rw [hop] at a0
  clear ht hsg hA hb0 hop
  go_enter Tryz.func22, Tryz.ntmps22
  go_upto_region 1 with fail
  clear hW0
  go_wp2_with fail
  refine HS.out.mono ?_
  rintro e w1 ⟨rfl, hb1⟩
  have HB1 := Lib.hid (HB0.out.trans (hb1.mono HB0.out.size))
  have HT1 := Lib.hid (HT0.out.keep hb1)
  have hk1 := HKA.out.keep hb1
  have HK1 := Lib.hid hk1
  obtain ⟨b0, b1, b2, b3, b4, b5, b6, b7, b8⟩ := hk1.nine
  rw [HO.out] at b0
  clear a0 a1 a2 a3 a4 a5 a6 a7 a8 hb1 hk1
  go_wp2
  go_ret2
  exact ⟨rfl, HB1.out⟩

set_option maxRecDepth 100000 in
set_option maxHeartbeats 4000000 in
theorem atom_13 {w : World} (ht : Tabs w) (x : It) (hs : Short x) (hop : x.op = 13) :
    Calls Tryz.prog 22 #[itVal x] w fun e w' => e = .returned (.tuple #[.string (atomTx x), .bool (namedB x)]) ∧ Below w.heap.size w w' := by
  obtain ⟨hs1, hs2, hs3, hs4, hs5, hs6⟩ := hs
  have HP := Lib.hid ((show atomTx x = signB 13 ∧ namedB x = true by have h2 := atomTx_else (x := x) (by omega); rw [hop] at h2; exact h2))
  rw [HP.out.1, HP.out.2]
  unfold itVal
  obtain ⟨W0, hW0⟩ : ∃ W, w.alloc (.cells #[.int .i64 x.op, .string x.ln, .int .i64 x.lnum, .string x.rn, .int .i64 x.rnum, .string x.name, .string x.user, .int .i64 x.line, .int .i64 x.col] 39) = W := ⟨_, rfl⟩
  have hA : Blk W0 w.heap.size #[.int .i64 x.op, .string x.ln, .int .i64 x.lnum, .string x.rn, .int .i64 x.rnum, .string x.name, .string x.user, .int .i64 x.line, .int .i64 x.col] 39 := by rw [← hW0]; exact Blk.new w _ _
  have hb0 : Below w.heap.size w W0 := by rw [← hW0]; exact (Below.refl _ w).alloc (Nat.le_refl _) _
  have HB0 := Lib.hid hb0
  have HT0 := Lib.hid (ht.keep hb0)
  have HS := Lib.hid (sh_sign_any HT0.out 13)
  obtain ⟨sg, hsg⟩ : ∃ s, signB 13 = s := ⟨_, rfl⟩
  have hsgl : sg.size ≤ 8 := by rw [← hsg]; exact signB_size 13
  rw [hsg] at HS HP ⊢
  have HKA := Lib.hid hA
  obtain ⟨a0, a1, a2, a3, a4, a5, a6, a7, a8⟩ := hA.nine
  have HO := Lib.hid hop
  rw [hop] at a0
  clear ht hsg hA hb0 hop
  go_enter Tryz.func22, Tryz.ntmps22
  go_upto_region 1 with fail
  clear hW0
  go_wp2_with fail
  refine HS.out.mono ?_
  rintro e w1 ⟨rfl, hb1⟩
  have HB1 := Lib.hid (HB0.out.trans (hb1.mono HB0.out.size))
  have HT1 := Lib.hid (HT0.out.keep hb1)
  have hk1 := HKA.out.keep hb1
  have HK1 := Lib.hid hk1
  obtain ⟨b0, b1, b2, b3, b4, b5, b6, b7, b8⟩ := hk1.nine
  rw [HO.out] at b0
  clear a0 a1 a2 a3 a4 a5 a6 a7 a8 hb1 hk1
  go_wp2
  go_ret2
  exact ⟨rfl, HB1.out⟩

set_option maxRecDepth 100000 in
set_option maxHeartbeats 4000000 in
theorem atom_14 {w : World} (ht : Tabs w) (x : It) (hs : Short x) (hop : x.op = 14) :
    Calls Tryz.prog 22 #[itVal x] w fun e w' => e = .returned (.tuple #[.string (atomTx x), .bool (namedB x)]) ∧ Below w.heap.size w w' := by
  obtain ⟨hs1, hs2, hs3, hs4, hs5, hs6⟩ := hs
  have HP := Lib.hid ((show atomTx x = signB 14 ∧ namedB x = true by have h2 := atomTx_else (x := x) (by omega); rw [hop] at h2; exact h2))
  rw [HP.out.1, HP.out.2]
  unfold itVal
  obtain ⟨W0, hW0⟩ : ∃ W, w.alloc (.cells #[.int .i64 x.op, .string x.ln, .int .i64 x.lnum, .string x.rn, .int .i64 x.rnum, .string x.name, .string x.user, .int .i64 x.line, .int .i64 x.col] 39) = W := ⟨_, rfl⟩
  have hA : Blk W0 w.heap.size #[.int .i64 x.op, .string x.ln, .int .i64 x.lnum, .string x.rn, .int .i64 x.rnum, .string x.name, .string x.user, .int .i64 x.line, .int .i64 x.col] 39 := by rw [← hW0]; exact Blk.new w _ _
  have hb0 : Below w.heap.size w W0 := by rw [← hW0]; exact (Below.refl _ w).alloc (Nat.le_refl _) _
  have HB0 := Lib.hid hb0
  have HT0 := Lib.hid (ht.keep hb0)
  have HS := Lib.hid (sh_sign_any HT0.out 14)
  obtain ⟨sg, hsg⟩ : ∃ s, signB 14 = s := ⟨_, rfl⟩
  have hsgl : sg.size ≤ 8 := by rw [← hsg]; exact signB_size 14
  rw [hsg] at HS HP ⊢
  have HKA := Lib.hid hA
  obtain ⟨a0, a1, a2, a3, a4, a5, a6, a7, a8⟩ := hA.nine
  have HO := Lib.hid hop
  rw [hop] at a0
  clear ht hsg hA hb0 hop
  go_enter Tryz.func22, Tryz.ntmps22
  go_upto_region 1 with fail
  clear hW0
  go_wp2_with fail
  refine HS.out.mono ?_
  rintro e w1 ⟨rfl, hb1⟩
  have HB1 := Lib.hid (HB0.out.trans (hb1.mono HB0.out.size))
  have HT1 := Lib.hid (HT0.out.keep hb1)
  have hk1 := HKA.out.keep hb1
  have HK1 := Lib.hid hk1
  obtain ⟨b0, b1, b2, b3, b4, b5, b6, b7, b8⟩ := hk1.nine
  rw [HO.out] at b0
  clear a0 a1 a2 a3 a4 a5 a6 a7 a8 hb1 hk1
  go_wp2
  go_ret2
  exact ⟨rfl, HB1.out⟩

set_option maxRecDepth 100000 in
set_option maxHeartbeats 4000000 in
theorem atom_9 {w : World} (ht : Tabs w) (x : It) (hs : Short x) (hop : x.op = 9) :
    Calls Tryz.prog 22 #[itVal x] w fun e w' => e = .returned (.tuple #[.string (atomTx x), .bool (namedB x)]) ∧ Below w.heap.size w w' := by
  obtain ⟨hs1, hs2, hs3, hs4, hs5, hs6⟩ := hs
  have HP := Lib.hid ((show atomTx x = signB 9 ++ sp8 ++ x.name ∧ namedB x = nameOK x.name by have h2 := atomTx_of (x := x) (by omega); rw [hop] at h2; exact h2))
  rw [HP.out.1, HP.out.2]
  unfold itVal
  obtain ⟨W0, hW0⟩ : ∃ W, w.alloc (.cells #[.int .i64 x.op, .string x.ln, .int .i64 x.lnum, .string x.rn, .int .i64 x.rnum, .string x.name, .string x.user, .int .i64 x.line, .int .i64 x.col] 39) = W := ⟨_, rfl⟩
  have hA : Blk W0 w.heap.size #[.int .i64 x.op, .string x.ln, .int .i64 x.lnum, .string x.rn, .int .i64 x.rnum, .string x.name, .string x.user, .int .i64 x.line, .int .i64 x.col] 39 := by rw [← hW0]; exact Blk.new w _ _
  have hb0 : Below w.heap.size w W0 := by rw [← hW0]; exact (Below.refl _ w).alloc (Nat.le_refl _) _
  have HB0 := Lib.hid hb0
  have HT0 := Lib.hid (ht.keep hb0)
  have HS := Lib.hid (sh_sign_any HT0.out 9)
  obtain ⟨sg, hsg⟩ : ∃ s, signB 9 = s := ⟨_, rfl⟩
  have hsgl : sg.size ≤ 8 := by rw [← hsg]; exact signB_size 9
  rw [hsg] at HS HP ⊢
  have HKA := Lib.hid hA
  obtain ⟨a0, a1, a2, a3, a4, a5, a6, a7, a8⟩ := hA.nine
  have HO := Lib.hid hop
  rw [hop] at a0
  have HN := Lib.hid (fun (W : World) (h : MaxCell W) => name_yes x.name W h (by omega))
  obtain ⟨p, hp⟩ : ∃ s, nameOK x.name = s := ⟨_, rfl⟩
  rw [hp] at HN HP ⊢
  have n1 : ¬ 9223372036854775807 < sg.size + 1 := by omega
  have n2 : ¬ 9223372036854775807 < sg.size + 1 + x.name.size := by omega
  clear ht hsg hA hb0 hop hp
  go_enter Tryz.func22, Tryz.ntmps22
  go_upto_region 1 with fail
  clear hW0
  go_wp2_with fail
  refine HS.out.mono ?_
  rintro e w1 ⟨rfl, hb1⟩
  have HB1 := Lib.hid (HB0.out.trans (hb1.mono HB0.out.size))
  have HT1 := Lib.hid (HT0.out.keep hb1)
  have hk1 := HKA.out.keep hb1
  have HK1 := Lib.hid hk1
  obtain ⟨b0, b1, b2, b3, b4, b5, b6, b7, b8⟩ := hk1.nine
  rw [HO.out] at b0
  clear a0 a1 a2 a3 a4 a5 a6 a7 a8 hb1 hk1
  have HMD := Lib.hid (show Tabs w1.drew from ⟨HT1.out.mx, HT1.out.pow, HT1.out.spc⟩)
  have b5d := HK1.out.drew.nine.2.2.2.2.2.1
  go_wp2
  go_region_held3 (fun w' => w'.cell? ⟨w.heap.size, 5, none⟩ = some (.string x.name)) (first | assumption | go_keep)
    (first | (go_simp; go_at_call 31; (with_reducible refine (HN.out _ HMD.out.mx).mono ?_); rintro e w5 ⟨rfl, hb5⟩; have HB5 := Lib.hid (HB1.out.drew.trans (hb5.mono HB1.out.drew.size)); have q5 := (HK1.out.drew.keep hb5).nine.2.2.2.2.2.1; clear hb5) | (trace_state; fail))
  all_goals
    go_wp2
    go_ret2
    exact ⟨rfl, HB5.out⟩

set_option maxRecDepth 100000 in
set_option maxHeartbeats 4000000 in
theorem atom_10 {w : World} (ht : Tabs w) (x : It) (hs : Short x) (hop : x.op = 10) :
    Calls Tryz.prog 22 #[itVal x] w fun e w' => e = .returned (.tuple #[.string (atomTx x), .bool (namedB x)]) ∧ Below w.heap.size w w' := by
  obtain ⟨hs1, hs2, hs3, hs4, hs5, hs6⟩ := hs
  have HP := Lib.hid ((show atomTx x = signB 10 ++ sp8 ++ x.name ∧ namedB x = nameOK x.name by have h2 := atomTx_of (x := x) (by omega); rw [hop] at h2; exact h2))
  rw [HP.out.1, HP.out.2]
  unfold itVal
  obtain ⟨W0, hW0⟩ : ∃ W, w.alloc (.cells #[.int .i64 x.op, .string x.ln, .int .i64 x.lnum, .string x.rn, .int .i64 x.rnum, .string x.name, .string x.user, .int .i64 x.line, .int .i64 x.col] 39) = W := ⟨_, rfl⟩
  have hA : Blk W0 w.heap.size #[.int .i64 x.op, .string x.ln, .int .i64 x.lnum, .string x.rn, .int .i64 x.rnum, .string x.name, .string x.user, .int .i64 x.line, .int .i64 x.col] 39 := by rw [← hW0]; exact Blk.new w _ _
  have hb0 : Below w.heap.size w W0 := by rw [← hW0]; exact (Below.refl _ w).alloc (Nat.le_refl _) _
  have HB0 := Lib.hid hb0
  have HT0 := Lib.hid (ht.keep hb0)
  have HS := Lib.hid (sh_sign_any HT0.out 10)
  obtain ⟨sg, hsg⟩ : ∃ s, signB 10 = s := ⟨_, rfl⟩
  have hsgl : sg.size ≤ 8 := by rw [← hsg]; exact signB_size 10
  rw [hsg] at HS HP ⊢
  have HKA := Lib.hid hA
  obtain ⟨a0, a1, a2, a3, a4, a5, a6, a7, a8⟩ := hA.nine
  have HO := Lib.hid hop
  rw [hop] at a0
  have HN := Lib.hid (fun (W : World) (h : MaxCell W) => name_yes x.name W h (by omega))
  obtain ⟨p, hp⟩ : ∃ s, nameOK x.name = s := ⟨_, rfl⟩
  rw [hp] at HN HP ⊢
  have n1 : ¬ 9223372036854775807 < sg.size + 1 := by omega
  have n2 : ¬ 9223372036854775807 < sg.size + 1 + x.name.size := by omega
  clear ht hsg hA hb0 hop hp
  go_enter Tryz.func22, Tryz.ntmps22
  go_upto_region 1 with fail
  clear hW0
  go_wp2_with fail
  refine HS.out.mono ?_
  rintro e w1 ⟨rfl, hb1⟩
  have HB1 := Lib.hid (HB0.out.trans (hb1.mono HB0.out.size))
  have HT1 := Lib.hid (HT0.out.keep hb1)
  have hk1 := HKA.out.keep hb1
  have HK1 := Lib.hid hk1
  obtain ⟨b0, b1, b2, b3, b4, b5, b6, b7, b8⟩ := hk1.nine
  rw [HO.out] at b0
  clear a0 a1 a2 a3 a4 a5 a6 a7 a8 hb1 hk1
  have HMD := Lib.hid (show Tabs w1.drew from ⟨HT1.out.mx, HT1.out.pow, HT1.out.spc⟩)
  have b5d := HK1.out.drew.nine.2.2.2.2.2.1
  go_wp2
  go_region_held3 (fun w' => w'.cell? ⟨w.heap.size, 5, none⟩ = some (.string x.name)) (first | assumption | go_keep)
    (first | (go_simp; go_at_call 31; (with_reducible refine (HN.out _ HMD.out.mx).mono ?_); rintro e w5 ⟨rfl, hb5⟩; have HB5 := Lib.hid (HB1.out.drew.trans (hb5.mono HB1.out.drew.size)); have q5 := (HK1.out.drew.keep hb5).nine.2.2.2.2.2.1; clear hb5) | (trace_state; fail))
  all_goals
    go_wp2
    go_ret2
    exact ⟨rfl, HB5.out⟩

set_option maxRecDepth 100000 in
set_option maxHeartbeats 4000000 in
theorem atom_11 {w : World} (ht : Tabs w) (x : It) (hs : Short x) (hop : x.op = 11) :
    Calls Tryz.prog 22 #[itVal x] w fun e w' => e = .returned (.tuple #[.string (atomTx x), .bool (namedB x)]) ∧ Below w.heap.size w w' := by
  obtain ⟨hs1, hs2, hs3, hs4, hs5, hs6⟩ := hs
  have HP := Lib.hid ((show atomTx x = signB 11 ++ sp8 ++ x.name ∧ namedB x = nameOK x.name by have h2 := atomTx_of (x := x) (by omega); rw [hop] at h2; exact h2))
  rw [HP.out.1, HP.out.2]
  unfold itVal
  obtain ⟨W0, hW0⟩ : ∃ W, w.alloc (.cells #[.int .i64 x.op, .string x.ln, .int .i64 x.lnum, .string x.rn, .int .i64 x.rnum, .string x.name, .string x.user, .int .i64 x.line, .int .i64 x.col] 39) = W := ⟨_, rfl⟩
  have hA : Blk W0 w.heap.size #[.int .i64 x.op, .string x.ln, .int .i64 x.lnum, .string x.rn, .int .i64 x.rnum, .string x.name, .string x.user, .int .i64 x.line, .int .i64 x.col] 39 := by rw [← hW0]; exact Blk.new w _ _
  have hb0 : Below w.heap.size w W0 := by rw [← hW0]; exact (Below.refl _ w).alloc (Nat.le_refl _) _
  have HB0 := Lib.hid hb0
  have HT0 := Lib.hid (ht.keep hb0)
  have HS := Lib.hid (sh_sign_any HT0.out 11)
  obtain ⟨sg, hsg⟩ : ∃ s, signB 11 = s := ⟨_, rfl⟩
  have hsgl : sg.size ≤ 8 := by rw [← hsg]; exact signB_size 11
  rw [hsg] at HS HP ⊢
  have HKA := Lib.hid hA
  obtain ⟨a0, a1, a2, a3, a4, a5, a6, a7, a8⟩ := hA.nine
  have HO := Lib.hid hop
  rw [hop] at a0
  have HN := Lib.hid (fun (W : World) (h : MaxCell W) => name_yes x.name W h (by omega))
  obtain ⟨p, hp⟩ : ∃ s, nameOK x.name = s := ⟨_, rfl⟩
  rw [hp] at HN HP ⊢
  have n1 : ¬ 9223372036854775807 < sg.size + 1 := by omega
  have n2 : ¬ 9223372036854775807 < sg.size + 1 + x.name.size := by omega
  clear ht hsg hA hb0 hop hp
  go_enter Tryz.func22, Tryz.ntmps22
  go_upto_region 1 with fail
  clear hW0
  go_wp2_with fail
  refine HS.out.mono ?_
  rintro e w1 ⟨rfl, hb1⟩
  have HB1 := Lib.hid (HB0.out.trans (hb1.mono HB0.out.size))
  have HT1 := Lib.hid (HT0.out.keep hb1)
  have hk1 := HKA.out.keep hb1
  have HK1 := Lib.hid hk1
  obtain ⟨b0, b1, b2, b3, b4, b5, b6, b7, b8⟩ := hk1.nine
  rw [HO.out] at b0
  clear a0 a1 a2 a3 a4 a5 a6 a7 a8 hb1 hk1
  have HMD := Lib.hid (show Tabs w1.drew from ⟨HT1.out.mx, HT1.out.pow, HT1.out.spc⟩)
  have b5d := HK1.out.drew.nine.2.2.2.2.2.1
  go_wp2
  go_region_held3 (fun w' => w'.cell? ⟨w.heap.size, 5, none⟩ = some (.string x.name)) (first | assumption | go_keep)
    (first | (go_simp; go_at_call 31; (with_reducible refine (HN.out _ HMD.out.mx).mono ?_); rintro e w5 ⟨rfl, hb5⟩; have HB5 := Lib.hid (HB1.out.drew.trans (hb5.mono HB1.out.drew.size)); have q5 := (HK1.out.drew.keep hb5).nine.2.2.2.2.2.1; clear hb5) | (trace_state; fail))
  all_goals
    go_wp2
    go_ret2
    exact ⟨rfl, HB5.out⟩

set_option maxRecDepth 100000 in
set_option maxHeartbeats 4000000 in
theorem atom_did {w : World} (ht : Tabs w) (x : It) (hs : Short x) (hop : x.op = 12) :
    Calls Tryz.prog 22 #[itVal x] w fun e w' => e = .returned (.tuple #[.string (atomTx x), .bool (namedB x)]) ∧ Below w.heap.size w w' := by
  obtain ⟨hs1, hs2, hs3, hs4, hs5, hs6⟩ := hs
  have HP := Lib.hid (atomTx_did hop)
  rw [HP.out.1, HP.out.2]
  unfold itVal
  obtain ⟨W0, hW0⟩ : ∃ W, w.alloc (.cells #[.int .i64 x.op, .string x.ln, .int .i64 x.lnum, .string x.rn, .int .i64 x.rnum, .string x.name, .string x.user, .int .i64 x.line, .int .i64 x.col] 39) = W := ⟨_, rfl⟩
  have hA : Blk W0 w.heap.size #[.int .i64 x.op, .string x.ln, .int .i64 x.lnum, .string x.rn, .int .i64 x.rnum, .string x.name, .string x.user, .int .i64 x.line, .int .i64 x.col] 39 := by rw [← hW0]; exact Blk.new w _ _
  have hb0 : Below w.heap.size w W0 := by rw [← hW0]; exact (Below.refl _ w).alloc (Nat.le_refl _) _
  have HB0 := Lib.hid hb0
  have HT0 := Lib.hid (ht.keep hb0)
  have HS := Lib.hid (sh_sign_any HT0.out 12)
  obtain ⟨sg, hsg⟩ : ∃ s, signB 12 = s := ⟨_, rfl⟩
  have hsgl : sg.size ≤ 8 := by rw [← hsg]; exact signB_size 12
  rw [hsg] at HS HP ⊢
  have HKA := Lib.hid hA
  obtain ⟨a0, a1, a2, a3, a4, a5, a6, a7, a8⟩ := hA.nine
  have HO := Lib.hid hop
  rw [hop] at a0
  have HN := Lib.hid (fun (W : World) (h : MaxCell W) => name_yes x.name W h (by omega))
  have HU := Lib.hid (fun (W : World) (h : MaxCell W) => name_yes x.user W h (by omega))
  obtain ⟨p, hp⟩ : ∃ s, nameOK x.user = s := ⟨_, rfl⟩
  obtain ⟨q, hq⟩ : ∃ s, nameOK x.name = s := ⟨_, rfl⟩
  rw [hp] at HU
  rw [hq] at HN
  rw [hp, hq] at HP ⊢
  have n1 : ¬ 9223372036854775807 < sg.size + 1 := by omega
  have n2 : ¬ 9223372036854775807 < sg.size + 1 + x.user.size := by omega
  have n3 : ¬ 9223372036854775807 < sg.size + 1 + x.user.size + 1 := by omega
  have n4 : ¬ 9223372036854775807 < sg.size + 1 + x.user.size + 1 + x.name.size := by omega
  clear ht hsg hA hb0 hop hp hq
  go_enter Tryz.func22, Tryz.ntmps22
  go_upto_region 1 with fail
  clear hW0
  go_wp2_with fail
  refine HS.out.mono ?_
  rintro e w1 ⟨rfl, hb1⟩
  have HB1 := Lib.hid (HB0.out.trans (hb1.mono HB0.out.size))
  have HT1 := Lib.hid (HT0.out.keep hb1)
  have hk1 := HKA.out.keep hb1
  have HK1 := Lib.hid hk1
  obtain ⟨b0, b1, b2, b3, b4, b5, b6, b7, b8⟩ := hk1.nine
  rw [HO.out] at b0
  clear a0 a1 a2 a3 a4 a5 a6 a7 a8 hb1 hk1
  have HMD := Lib.hid (show Tabs w1.drew from ⟨HT1.out.mx, HT1.out.pow, HT1.out.spc⟩)
  obtain ⟨_, _, _, _, _, d5, d6, _, _⟩ := HK1.out.drew.nine
  have HX := Lib.hid (fun (W : World) (h : Below w1.drew.heap.size w1.drew W) => (show W.cell? ⟨w.heap.size, 5, none⟩ = some (.string x.name) ∧ W.cell? ⟨w.heap.size, 6, none⟩ = some (.string x.user) from ⟨(HK1.out.drew.keep h).nine.2.2.2.2.2.1, (HK1.out.drew.keep h).nine.2.2.2.2.2.2.1⟩))
  cases p
  · go_wp2
    have hbz : Below w1.drew.heap.size w1.drew w1.drew := Below.refl _ _
    refine wp_region_held_drew (S := (fun w' => w'.cell? ⟨w.heap.size, 5, none⟩ = some (.string x.name) ∧ w'.cell? ⟨w.heap.size, 6, none⟩ = some (.string x.user))) (by kernel_rfl) ?_ (fun hHeld => ?_)
    · exact HX.out _ hbz
    refine wpAnyH_take (i := 0) (v := ?v0) rfl (by kernel_rfl) (by kernel_rfl) (by kernel_rfl) (fun _ _ _ h => h) (Or.inl ⟨by rfl, ?y0⟩) (by assumption) ?r0
    case y0 => ((intro w hSw; (try dsimp only at hSw); go_simp) <;> (try with_reducible rfl))
    (try go_simp)
    refine wpAnyH_take (i := 1) (v := ?v1) rfl (by kernel_rfl) (by kernel_rfl) (by kernel_rfl) (fun _ _ _ h => h) (Or.inl ⟨by rfl, ?y1⟩) (by assumption) ?r1
    case y1 => ((intro w hSw; (try dsimp only at hSw); go_simp) <;> (try with_reducible rfl))
    (try go_simp)
    refine wpAnyH_take (i := 2) (v := ?v2) rfl (by kernel_rfl) (by kernel_rfl) (by kernel_rfl) (fun _ _ _ h => h) (Or.inl ⟨by rfl, ?y2⟩) (by assumption) ?r2
    case y2 => ((intro w hSw; (try dsimp only at hSw); go_simp) <;> (try with_reducible rfl))
    (try go_simp)
    refine wpAnyH_take (i := 3) (v := ?v3) rfl (by kernel_rfl) (by kernel_rfl) (by kernel_rfl) (fun _ _ _ h => h) (Or.inl ⟨by rfl, ?y3⟩) (by assumption) ?r3
    case y3 => ((intro w hSw; (try dsimp only at hSw); go_simp) <;> (try with_reducible rfl))
    (try go_simp)
    refine wpAnyH_take (i := 4) (v := ?v4) rfl (by kernel_rfl) (by kernel_rfl) (by kernel_rfl) (fun _ _ _ h => h) (Or.inl ⟨by rfl, ?y4⟩) (by assumption) ?r4
    case y4 => ((intro w hSw; (try dsimp only at hSw); go_simp) <;> (try with_reducible rfl))
    (try go_simp)
    refine wpAnyH_take (i := 5) (v := ?v5) rfl (by kernel_rfl) (by kernel_rfl) (by kernel_rfl) (fun _ _ _ h => h) (Or.inl ⟨by rfl, ?y5⟩) (by assumption) ?r5
    case y5 => ((intro w hSw; (try dsimp only at hSw); go_simp) <;> (try with_reducible rfl))
    (try go_simp)
    refine wpAnyH_take (i := 6) (v := ?v6) rfl (by kernel_rfl) (by kernel_rfl) (by kernel_rfl) (fun _ _ _ h => h) (Or.inl ⟨by rfl, ?y6⟩) (by assumption) ?r6
    case y6 => ((intro w hSw; (try dsimp only at hSw); go_simp) <;> (try with_reducible rfl))
    (try go_simp)
    refine wpAnyH_take (i := 7) (v := ?v7) rfl (by kernel_rfl) (by kernel_rfl) (by kernel_rfl) (fun _ _ _ h => h) (Or.inl ⟨by rfl, ?y7⟩) (by assumption) ?r7
    case y7 => ((intro w hSw; (try dsimp only at hSw); go_simp) <;> (try with_reducible rfl))
    (try go_simp)
    refine wpAnyH_take (i := 8) (v := ?v8) rfl (by kernel_rfl) (by kernel_rfl) (by kernel_rfl) (fun _ _ _ h => h) (Or.inl ⟨by rfl, ?y8⟩) (by assumption) ?r8
    case y8 => ((intro w hSw; (try dsimp only at hSw); go_simp) <;> (try with_reducible rfl))
    (try go_simp)
    refine wpAnyH_take (i := 9) (v := ?v9) rfl (by kernel_rfl) (by kernel_rfl) (by kernel_rfl) (fun _ _ _ h => h) (Or.inl ⟨by rfl, ?y9⟩) (by assumption) ?r9
    case y9 => ((intro w hSw; (try dsimp only at hSw); go_simp) <;> (try with_reducible rfl))
    (try go_simp)
    refine wpAnyH_take (i := 10) (v := ?v10) rfl (by kernel_rfl) (by kernel_rfl) (by kernel_rfl) (fun _ _ _ h => h) (Or.inl ⟨by rfl, ?y10⟩) (by assumption) ?r10
    case y10 => ((intro w hSw; (try dsimp only at hSw); go_simp) <;> (try with_reducible rfl))
    (try go_simp)
    refine wpAnyH_ready (rs := [11]) (by kernel_rfl) (by simp) ?_
    refine AllReadyH.cons rfl (fun K hK => ?_) AllReadyH.nil
    go_simp
    refine (HU.out _ HMD.out.mx).mono ?_
    rintro e w5 ⟨rfl, hbs⟩
    have hbz := hbz.trans (hbs.mono hbz.size)
    clear hbs
    refine hK.out _ _ ?_ (fun hHeld => ?_)
    · exact HX.out _ hbz
    clear hK K
    (try go_simp)
    refine wpAnyH_take (i := 12) (v := ?v12) rfl (by kernel_rfl) (by kernel_rfl) (by kernel_rfl) (fun _ _ _ h => h) (Or.inl ⟨by rfl, ?y12⟩) (by assumption) ?r12
    case y12 => ((intro w hSw; (try dsimp only at hSw); go_simp) <;> (try with_reducible rfl))
    (try go_simp)
    refine wpAnyH_take (i := 13) (v := undef) rfl (by kernel_rfl) (by kernel_rfl) (by kernel_rfl) (fun _ _ _ h => h) (Or.inr ⟨by rfl, rfl⟩) (by assumption) ?_
    (try go_simp)
    refine wpAnyH_take (i := 14) (v := undef) rfl (by kernel_rfl) (by kernel_rfl) (by kernel_rfl) (fun _ _ _ h => h) (Or.inr ⟨by rfl, rfl⟩) (by assumption) ?_
    (try go_simp)
    refine wpAnyH_ready (rs := [15]) (by kernel_rfl) (by simp) ?_
    refine AllReadyH.cons rfl (fun K hK => ?_) AllReadyH.nil
    rw [if_neg (fun h => by have h2 : false = true := h; cases h2)]
    refine hK.out _ _ ?_ (fun hHeld => ?_)
    · exact HX.out _ hbz
    clear hK K
    (try go_simp)
    refine wpAnyH_take (i := 16) (v := ?v16) rfl (by kernel_rfl) (by kernel_rfl) (by kernel_rfl) (fun _ _ _ h => h) (Or.inl ⟨by rfl, ?y16⟩) (by assumption) ?r16
    case y16 => ((intro w hSw; (try dsimp only at hSw); go_simp) <;> (try with_reducible rfl))
    (try go_simp)
    refine wpAnyH_take (i := 17) (v := ?v17) rfl (by kernel_rfl) (by kernel_rfl) (by kernel_rfl) (fun _ _ _ h => h) (Or.inl ⟨by rfl, ?y17⟩) (by assumption) ?r17
    case y17 => ((intro w hSw; (try dsimp only at hSw); go_simp) <;> (try with_reducible rfl))
    (try go_simp)
    refine wpAnyH_take (i := 18) (v := ?v18) rfl (by kernel_rfl) (by kernel_rfl) (by kernel_rfl) (fun _ _ _ h => h) (Or.inl ⟨by rfl, ?y18⟩) (by assumption) ?r18
    case y18 => ((intro w hSw; (try dsimp only at hSw); go_simp) <;> (try with_reducible rfl))
    (try go_simp)
    refine wpAnyH_done (by kernel_rfl) ?_ _
    go_wp2
    go_ret2
    exact ⟨rfl, HB1.out.drew.trans (hbz.mono HB1.out.drew.size)⟩
  · go_wp2
    go_region_held3 (fun w' => w'.cell? ⟨w.heap.size, 5, none⟩ = some (.string x.name) ∧ w'.cell? ⟨w.heap.size, 6, none⟩ = some (.string x.user)) (first | (with_reducible exact ⟨d5, d6⟩) | (with_reducible exact ⟨q5, q6⟩) | (with_reducible exact ⟨r5, r6⟩) | go_keep)
      (first
        | (go_simp; go_at_call 31; (with_reducible refine (HU.out _ HMD.out.mx).mono ?_); rintro e w5 ⟨rfl, hb5⟩; have HB5 := Lib.hid (HB1.out.drew.trans (hb5.mono HB1.out.drew.size)); have hk5 := (HK1.out.drew.keep hb5); have HM5 := Lib.hid (HMD.out.keep hb5); obtain ⟨_, _, _, _, _, q5, q6, _, _⟩ := hk5.nine; have HK5 := Lib.hid hk5; clear hb5 hk5)
        | (go_simp; go_at_call 31; (with_reducible refine (HN.out _ HM5.out.mx).mono ?_); rintro e w6 ⟨rfl, hb6⟩; have HB6 := Lib.hid (HB5.out.trans (hb6.mono HB5.out.size)); obtain ⟨_, _, _, _, _, r5, r6, _, _⟩ := (HK5.out.keep hb6).nine; clear hb6)
        | (trace_state; fail))
    all_goals
      go_wp2
      go_ret2
      exact ⟨rfl, HB6.out⟩

theorem sh_atom_any {w : World} (ht : Tabs w) (x : It) (hs : Short x) (h : arN x.op = 0) :
    Calls Tryz.prog 22 #[itVal x] w fun e w' => e = .returned (.tuple #[.string (atomTx x), .bool (namedB x)]) ∧ Below w.heap.size w w' := by
  have h2 : 1 ≤ x.op ∧ x.op ≤ 14 := by
    unfold arN at h
    split at h
    · assumption
    split at h
    · omega
    split at h
    · omega
    · omega
  rcases (show x.op = 1 ∨ x.op = 2 ∨ (3 ≤ x.op ∧ x.op ≤ 8) ∨ x.op = 9 ∨ x.op = 10 ∨ x.op = 11 ∨ x.op = 12 ∨ x.op = 13 ∨ x.op = 14 by omega) with h | h | h | h | h | h | h | h | h
  · exact atom_1 ht x hs h
  · exact atom_2 ht x hs h
  · exact atom_cmp ht x hs h
  · exact atom_9 ht x hs h
  · exact atom_10 ht x hs h
  · exact atom_11 ht x hs h
  · exact atom_did ht x hs h
  · exact atom_13 ht x hs h
  · exact atom_14 ht x hs h

end Go.Proofs.YthhjepgcbfmfeaaGreatDoor
