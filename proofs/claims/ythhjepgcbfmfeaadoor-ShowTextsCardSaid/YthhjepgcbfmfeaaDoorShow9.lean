/- Contracts of warderref06's text at a leaf, and at a formula of one. -/
import Derived.Test.YthhjepgcbfmfeaaDoorShow8b
import Derived.Test.YthhjepgcbfmfeaaDoorShow5
namespace Go.Proofs.YthhjepgcbfmfeaaDoor
open Go.RowKit

/-- text answers this for the part that ends at e -/
def TextAt (O : List It) (v : Value) (tx : ByteArray) (e : Nat) : Prop := ∀ W : World, ItIn W v O → Calls Tryd.prog 17 #[v, .int .i64 e] W fun en w' => en = .returned (.string tx) ∧ Below W.heap.size W w'


set_option maxRecDepth 100000 in
set_option maxHeartbeats 2000000 in
theorem rtext_1 {O : List It} {v : Value} {e : Nat} {x : It} (hx : O[e]? = some x) (hs : Short x) (hop : x.op = 1) : TextAt O v (atomTx x) e := by
  obtain ⟨hs1, hs2, hs3, hs4, hs5, hs6⟩ := hs
  have HP := Lib.hid (show atomTx x = signB x.op ∧ namedB x = true from atomTx_else (x := x) (by omega))
  rw [HP.out.1]
  intro W hW
  obtain ⟨g, off, cap, hv, hgl, a0, a1, a2, a3, a4, a5, a6, a7, a8⟩ := hW.at hx
  subst hv
  have hlt := (List.getElem?_eq_some_iff.1 hx).1
  obtain ⟨W0, hW0⟩ : ∃ W0, W.alloc (.cells #[.int .i64 x.op, .string x.ln, .int .i64 x.lnum, .string x.rn, .int .i64 x.rnum, .string x.name, .string x.user, .int .i64 x.line, .int .i64 x.col] 36) = W0 := ⟨_, rfl⟩
  have hA : Blk W0 W.heap.size #[.int .i64 x.op, .string x.ln, .int .i64 x.lnum, .string x.rn, .int .i64 x.rnum, .string x.name, .string x.user, .int .i64 x.line, .int .i64 x.col] 36 := by rw [← hW0]; exact Blk.new W _ _
  have hb0 : Below W.heap.size W W0 := by rw [← hW0]; exact (Below.refl _ W).alloc (Nat.le_refl _) _
  have HB0 := Lib.hid hb0
  have HI0 := Lib.hid (hW.keep hb0)
  have HX := Lib.hid hx
  have HK := Lib.hid (kids_0 (hW.keep hb0) hx (arN_leaf (by omega)))
  have HS := Lib.hid (fun (W : World) => rsign_any W x.op)
  obtain ⟨sg, hsg⟩ : ∃ s, signB x.op = s := ⟨_, rfl⟩
  have hsgl : sg.size ≤ 8 := by rw [← hsg]; exact signB_size x.op
  rw [hsg] at HS
  (try rw [hsg])
  have HKA := Lib.hid hA
  obtain ⟨p0, p1, p2, p3, p4, p5, p6, p7, p8⟩ := hA.nine
  obtain ⟨E, hE⟩ : ∃ E : Int, ((e : Nat) : Int) = E := ⟨_, rfl⟩
  have hez : E < (O.length : Int) := by clear HK; omega
  have he0 : (0 : Int) ≤ E := by clear HK; omega
  have ht1 : E.toNat = e := by clear HK; omega
  rw [hE]
  rw [hE] at HK
  rw [hsg] at HP
  have HO := Lib.hid hop
  rw [hop] at HS hW0 p0 a0
  clear hop
  clear hE hA hb0 hW hx hlt hsg
  go_enter Tryd.func17, Tryd.ntmps17
  go_upto_region 2 with fail
  clear hW0 a0 a1 a2 a3 a4 a5 a6 a7 a8 p0 p1 p2 p3 p4 p5 p6 p7 p8
  go_wp2_with fail
  refine HK.out.mono ?_
  rintro en w0 ⟨rfl, hw⟩
  rw [hw]; clear hw
  obtain ⟨p0, p1, p2, p3, p4, p5, p6, p7, p8⟩ := HKA.out.nine
  rw [HO.out] at p0
  go_wp2_with fail
  refine (HS.out _).mono ?_
  rintro en w1 ⟨rfl, hb1⟩
  have HB1 := Lib.hid (HB0.out.trans (hb1.mono HB0.out.size))
  have hk1 := HKA.out.keep hb1
  have HK1 := Lib.hid hk1
  obtain ⟨q0, q1, q2, q3, q4, q5, q6, q7, q8⟩ := hk1.nine
  clear p0 p1 p2 p3 p4 p5 p6 p7 p8 hb1 hk1
  rw [HO.out] at q0
  go_wp2
  go_ret
  exact ⟨rfl, HB1.out⟩

set_option maxRecDepth 100000 in
set_option maxHeartbeats 2000000 in
theorem rtext_2 {O : List It} {v : Value} {e : Nat} {x : It} (hx : O[e]? = some x) (hs : Short x) (hop : x.op = 2) : TextAt O v (atomTx x) e := by
  obtain ⟨hs1, hs2, hs3, hs4, hs5, hs6⟩ := hs
  have HP := Lib.hid (show atomTx x = signB x.op ∧ namedB x = true from atomTx_else (x := x) (by omega))
  rw [HP.out.1]
  intro W hW
  obtain ⟨g, off, cap, hv, hgl, a0, a1, a2, a3, a4, a5, a6, a7, a8⟩ := hW.at hx
  subst hv
  have hlt := (List.getElem?_eq_some_iff.1 hx).1
  obtain ⟨W0, hW0⟩ : ∃ W0, W.alloc (.cells #[.int .i64 x.op, .string x.ln, .int .i64 x.lnum, .string x.rn, .int .i64 x.rnum, .string x.name, .string x.user, .int .i64 x.line, .int .i64 x.col] 36) = W0 := ⟨_, rfl⟩
  have hA : Blk W0 W.heap.size #[.int .i64 x.op, .string x.ln, .int .i64 x.lnum, .string x.rn, .int .i64 x.rnum, .string x.name, .string x.user, .int .i64 x.line, .int .i64 x.col] 36 := by rw [← hW0]; exact Blk.new W _ _
  have hb0 : Below W.heap.size W W0 := by rw [← hW0]; exact (Below.refl _ W).alloc (Nat.le_refl _) _
  have HB0 := Lib.hid hb0
  have HI0 := Lib.hid (hW.keep hb0)
  have HX := Lib.hid hx
  have HK := Lib.hid (kids_0 (hW.keep hb0) hx (arN_leaf (by omega)))
  have HS := Lib.hid (fun (W : World) => rsign_any W x.op)
  obtain ⟨sg, hsg⟩ : ∃ s, signB x.op = s := ⟨_, rfl⟩
  have hsgl : sg.size ≤ 8 := by rw [← hsg]; exact signB_size x.op
  rw [hsg] at HS
  (try rw [hsg])
  have HKA := Lib.hid hA
  obtain ⟨p0, p1, p2, p3, p4, p5, p6, p7, p8⟩ := hA.nine
  obtain ⟨E, hE⟩ : ∃ E : Int, ((e : Nat) : Int) = E := ⟨_, rfl⟩
  have hez : E < (O.length : Int) := by clear HK; omega
  have he0 : (0 : Int) ≤ E := by clear HK; omega
  have ht1 : E.toNat = e := by clear HK; omega
  rw [hE]
  rw [hE] at HK
  rw [hsg] at HP
  have HO := Lib.hid hop
  rw [hop] at HS hW0 p0 a0
  clear hop
  clear hE hA hb0 hW hx hlt hsg
  go_enter Tryd.func17, Tryd.ntmps17
  go_upto_region 2 with fail
  clear hW0 a0 a1 a2 a3 a4 a5 a6 a7 a8 p0 p1 p2 p3 p4 p5 p6 p7 p8
  go_wp2_with fail
  refine HK.out.mono ?_
  rintro en w0 ⟨rfl, hw⟩
  rw [hw]; clear hw
  obtain ⟨p0, p1, p2, p3, p4, p5, p6, p7, p8⟩ := HKA.out.nine
  rw [HO.out] at p0
  go_wp2_with fail
  refine (HS.out _).mono ?_
  rintro en w1 ⟨rfl, hb1⟩
  have HB1 := Lib.hid (HB0.out.trans (hb1.mono HB0.out.size))
  have hk1 := HKA.out.keep hb1
  have HK1 := Lib.hid hk1
  obtain ⟨q0, q1, q2, q3, q4, q5, q6, q7, q8⟩ := hk1.nine
  clear p0 p1 p2 p3 p4 p5 p6 p7 p8 hb1 hk1
  rw [HO.out] at q0
  go_wp2
  go_ret
  exact ⟨rfl, HB1.out⟩

set_option maxRecDepth 100000 in
set_option maxHeartbeats 2000000 in
theorem rtext_13 {O : List It} {v : Value} {e : Nat} {x : It} (hx : O[e]? = some x) (hs : Short x) (hop : x.op = 13) : TextAt O v (atomTx x) e := by
  obtain ⟨hs1, hs2, hs3, hs4, hs5, hs6⟩ := hs
  have HP := Lib.hid (show atomTx x = signB x.op ∧ namedB x = true from atomTx_else (x := x) (by omega))
  rw [HP.out.1]
  intro W hW
  obtain ⟨g, off, cap, hv, hgl, a0, a1, a2, a3, a4, a5, a6, a7, a8⟩ := hW.at hx
  subst hv
  have hlt := (List.getElem?_eq_some_iff.1 hx).1
  obtain ⟨W0, hW0⟩ : ∃ W0, W.alloc (.cells #[.int .i64 x.op, .string x.ln, .int .i64 x.lnum, .string x.rn, .int .i64 x.rnum, .string x.name, .string x.user, .int .i64 x.line, .int .i64 x.col] 36) = W0 := ⟨_, rfl⟩
  have hA : Blk W0 W.heap.size #[.int .i64 x.op, .string x.ln, .int .i64 x.lnum, .string x.rn, .int .i64 x.rnum, .string x.name, .string x.user, .int .i64 x.line, .int .i64 x.col] 36 := by rw [← hW0]; exact Blk.new W _ _
  have hb0 : Below W.heap.size W W0 := by rw [← hW0]; exact (Below.refl _ W).alloc (Nat.le_refl _) _
  have HB0 := Lib.hid hb0
  have HI0 := Lib.hid (hW.keep hb0)
  have HX := Lib.hid hx
  have HK := Lib.hid (kids_0 (hW.keep hb0) hx (arN_leaf (by omega)))
  have HS := Lib.hid (fun (W : World) => rsign_any W x.op)
  obtain ⟨sg, hsg⟩ : ∃ s, signB x.op = s := ⟨_, rfl⟩
  have hsgl : sg.size ≤ 8 := by rw [← hsg]; exact signB_size x.op
  rw [hsg] at HS
  (try rw [hsg])
  have HKA := Lib.hid hA
  obtain ⟨p0, p1, p2, p3, p4, p5, p6, p7, p8⟩ := hA.nine
  obtain ⟨E, hE⟩ : ∃ E : Int, ((e : Nat) : Int) = E := ⟨_, rfl⟩
  have hez : E < (O.length : Int) := by clear HK; omega
  have he0 : (0 : Int) ≤ E := by clear HK; omega
  have ht1 : E.toNat = e := by clear HK; omega
  rw [hE]
  rw [hE] at HK
  rw [hsg] at HP
  have HO := Lib.hid hop
  rw [hop] at HS hW0 p0 a0
  clear hop
  clear hE hA hb0 hW hx hlt hsg
  go_enter Tryd.func17, Tryd.ntmps17
  go_upto_region 2 with fail
  clear hW0 a0 a1 a2 a3 a4 a5 a6 a7 a8 p0 p1 p2 p3 p4 p5 p6 p7 p8
  go_wp2_with fail
  refine HK.out.mono ?_
  rintro en w0 ⟨rfl, hw⟩
  rw [hw]; clear hw
  obtain ⟨p0, p1, p2, p3, p4, p5, p6, p7, p8⟩ := HKA.out.nine
  rw [HO.out] at p0
  go_wp2_with fail
  refine (HS.out _).mono ?_
  rintro en w1 ⟨rfl, hb1⟩
  have HB1 := Lib.hid (HB0.out.trans (hb1.mono HB0.out.size))
  have hk1 := HKA.out.keep hb1
  have HK1 := Lib.hid hk1
  obtain ⟨q0, q1, q2, q3, q4, q5, q6, q7, q8⟩ := hk1.nine
  clear p0 p1 p2 p3 p4 p5 p6 p7 p8 hb1 hk1
  rw [HO.out] at q0
  go_wp2
  go_ret
  exact ⟨rfl, HB1.out⟩

set_option maxRecDepth 100000 in
set_option maxHeartbeats 2000000 in
theorem rtext_14 {O : List It} {v : Value} {e : Nat} {x : It} (hx : O[e]? = some x) (hs : Short x) (hop : x.op = 14) : TextAt O v (atomTx x) e := by
  obtain ⟨hs1, hs2, hs3, hs4, hs5, hs6⟩ := hs
  have HP := Lib.hid (show atomTx x = signB x.op ∧ namedB x = true from atomTx_else (x := x) (by omega))
  rw [HP.out.1]
  intro W hW
  obtain ⟨g, off, cap, hv, hgl, a0, a1, a2, a3, a4, a5, a6, a7, a8⟩ := hW.at hx
  subst hv
  have hlt := (List.getElem?_eq_some_iff.1 hx).1
  obtain ⟨W0, hW0⟩ : ∃ W0, W.alloc (.cells #[.int .i64 x.op, .string x.ln, .int .i64 x.lnum, .string x.rn, .int .i64 x.rnum, .string x.name, .string x.user, .int .i64 x.line, .int .i64 x.col] 36) = W0 := ⟨_, rfl⟩
  have hA : Blk W0 W.heap.size #[.int .i64 x.op, .string x.ln, .int .i64 x.lnum, .string x.rn, .int .i64 x.rnum, .string x.name, .string x.user, .int .i64 x.line, .int .i64 x.col] 36 := by rw [← hW0]; exact Blk.new W _ _
  have hb0 : Below W.heap.size W W0 := by rw [← hW0]; exact (Below.refl _ W).alloc (Nat.le_refl _) _
  have HB0 := Lib.hid hb0
  have HI0 := Lib.hid (hW.keep hb0)
  have HX := Lib.hid hx
  have HK := Lib.hid (kids_0 (hW.keep hb0) hx (arN_leaf (by omega)))
  have HS := Lib.hid (fun (W : World) => rsign_any W x.op)
  obtain ⟨sg, hsg⟩ : ∃ s, signB x.op = s := ⟨_, rfl⟩
  have hsgl : sg.size ≤ 8 := by rw [← hsg]; exact signB_size x.op
  rw [hsg] at HS
  (try rw [hsg])
  have HKA := Lib.hid hA
  obtain ⟨p0, p1, p2, p3, p4, p5, p6, p7, p8⟩ := hA.nine
  obtain ⟨E, hE⟩ : ∃ E : Int, ((e : Nat) : Int) = E := ⟨_, rfl⟩
  have hez : E < (O.length : Int) := by clear HK; omega
  have he0 : (0 : Int) ≤ E := by clear HK; omega
  have ht1 : E.toNat = e := by clear HK; omega
  rw [hE]
  rw [hE] at HK
  rw [hsg] at HP
  have HO := Lib.hid hop
  rw [hop] at HS hW0 p0 a0
  clear hop
  clear hE hA hb0 hW hx hlt hsg
  go_enter Tryd.func17, Tryd.ntmps17
  go_upto_region 2 with fail
  clear hW0 a0 a1 a2 a3 a4 a5 a6 a7 a8 p0 p1 p2 p3 p4 p5 p6 p7 p8
  go_wp2_with fail
  refine HK.out.mono ?_
  rintro en w0 ⟨rfl, hw⟩
  rw [hw]; clear hw
  obtain ⟨p0, p1, p2, p3, p4, p5, p6, p7, p8⟩ := HKA.out.nine
  rw [HO.out] at p0
  go_wp2_with fail
  refine (HS.out _).mono ?_
  rintro en w1 ⟨rfl, hb1⟩
  have HB1 := Lib.hid (HB0.out.trans (hb1.mono HB0.out.size))
  have hk1 := HKA.out.keep hb1
  have HK1 := Lib.hid hk1
  obtain ⟨q0, q1, q2, q3, q4, q5, q6, q7, q8⟩ := hk1.nine
  clear p0 p1 p2 p3 p4 p5 p6 p7 p8 hb1 hk1
  rw [HO.out] at q0
  go_wp2
  go_ret
  exact ⟨rfl, HB1.out⟩

set_option maxRecDepth 100000 in
set_option maxHeartbeats 2000000 in
theorem rtext_9 {O : List It} {v : Value} {e : Nat} {x : It} (hx : O[e]? = some x) (hs : Short x) (hop : x.op = 9) : TextAt O v (atomTx x) e := by
  obtain ⟨hs1, hs2, hs3, hs4, hs5, hs6⟩ := hs
  have HP := Lib.hid (show atomTx x = signB x.op ++ sp8 ++ x.name ∧ namedB x = nameOK x.name from atomTx_of (x := x) (by omega))
  rw [HP.out.1]
  intro W hW
  obtain ⟨g, off, cap, hv, hgl, a0, a1, a2, a3, a4, a5, a6, a7, a8⟩ := hW.at hx
  subst hv
  have hlt := (List.getElem?_eq_some_iff.1 hx).1
  obtain ⟨W0, hW0⟩ : ∃ W0, W.alloc (.cells #[.int .i64 x.op, .string x.ln, .int .i64 x.lnum, .string x.rn, .int .i64 x.rnum, .string x.name, .string x.user, .int .i64 x.line, .int .i64 x.col] 36) = W0 := ⟨_, rfl⟩
  have hA : Blk W0 W.heap.size #[.int .i64 x.op, .string x.ln, .int .i64 x.lnum, .string x.rn, .int .i64 x.rnum, .string x.name, .string x.user, .int .i64 x.line, .int .i64 x.col] 36 := by rw [← hW0]; exact Blk.new W _ _
  have hb0 : Below W.heap.size W W0 := by rw [← hW0]; exact (Below.refl _ W).alloc (Nat.le_refl _) _
  have HB0 := Lib.hid hb0
  have HI0 := Lib.hid (hW.keep hb0)
  have HX := Lib.hid hx
  have HK := Lib.hid (kids_0 (hW.keep hb0) hx (arN_leaf (by omega)))
  have HS := Lib.hid (fun (W : World) => rsign_any W x.op)
  obtain ⟨sg, hsg⟩ : ∃ s, signB x.op = s := ⟨_, rfl⟩
  have hsgl : sg.size ≤ 8 := by rw [← hsg]; exact signB_size x.op
  rw [hsg] at HS
  (try rw [hsg])
  have HKA := Lib.hid hA
  obtain ⟨p0, p1, p2, p3, p4, p5, p6, p7, p8⟩ := hA.nine
  obtain ⟨E, hE⟩ : ∃ E : Int, ((e : Nat) : Int) = E := ⟨_, rfl⟩
  have hez : E < (O.length : Int) := by clear HK; omega
  have he0 : (0 : Int) ≤ E := by clear HK; omega
  have ht1 : E.toNat = e := by clear HK; omega
  rw [hE]
  rw [hE] at HK
  rw [hsg] at HP
  have HO := Lib.hid hop
  rw [hop] at HS hW0 p0 a0
  clear hop
  have n1 : ¬ 9223372036854775807 < sg.size + 1 := by omega
  have n2 : ¬ 9223372036854775807 < sg.size + 1 + x.name.size := by omega
  clear hE hA hb0 hW hx hlt hsg
  go_enter Tryd.func17, Tryd.ntmps17
  go_upto_region 2 with fail
  clear hW0 a0 a1 a2 a3 a4 a5 a6 a7 a8 p0 p1 p2 p3 p4 p5 p6 p7 p8
  go_wp2_with fail
  refine HK.out.mono ?_
  rintro en w0 ⟨rfl, hw⟩
  rw [hw]; clear hw
  obtain ⟨p0, p1, p2, p3, p4, p5, p6, p7, p8⟩ := HKA.out.nine
  rw [HO.out] at p0
  go_wp2_with fail
  refine (HS.out _).mono ?_
  rintro en w1 ⟨rfl, hb1⟩
  have HB1 := Lib.hid (HB0.out.trans (hb1.mono HB0.out.size))
  have hk1 := HKA.out.keep hb1
  have HK1 := Lib.hid hk1
  obtain ⟨q0, q1, q2, q3, q4, q5, q6, q7, q8⟩ := hk1.nine
  clear p0 p1 p2 p3 p4 p5 p6 p7 p8 hb1 hk1
  rw [HO.out] at q0
  go_wp2
  go_ret
  exact ⟨rfl, HB1.out⟩

set_option maxRecDepth 100000 in
set_option maxHeartbeats 2000000 in
theorem rtext_10 {O : List It} {v : Value} {e : Nat} {x : It} (hx : O[e]? = some x) (hs : Short x) (hop : x.op = 10) : TextAt O v (atomTx x) e := by
  obtain ⟨hs1, hs2, hs3, hs4, hs5, hs6⟩ := hs
  have HP := Lib.hid (show atomTx x = signB x.op ++ sp8 ++ x.name ∧ namedB x = nameOK x.name from atomTx_of (x := x) (by omega))
  rw [HP.out.1]
  intro W hW
  obtain ⟨g, off, cap, hv, hgl, a0, a1, a2, a3, a4, a5, a6, a7, a8⟩ := hW.at hx
  subst hv
  have hlt := (List.getElem?_eq_some_iff.1 hx).1
  obtain ⟨W0, hW0⟩ : ∃ W0, W.alloc (.cells #[.int .i64 x.op, .string x.ln, .int .i64 x.lnum, .string x.rn, .int .i64 x.rnum, .string x.name, .string x.user, .int .i64 x.line, .int .i64 x.col] 36) = W0 := ⟨_, rfl⟩
  have hA : Blk W0 W.heap.size #[.int .i64 x.op, .string x.ln, .int .i64 x.lnum, .string x.rn, .int .i64 x.rnum, .string x.name, .string x.user, .int .i64 x.line, .int .i64 x.col] 36 := by rw [← hW0]; exact Blk.new W _ _
  have hb0 : Below W.heap.size W W0 := by rw [← hW0]; exact (Below.refl _ W).alloc (Nat.le_refl _) _
  have HB0 := Lib.hid hb0
  have HI0 := Lib.hid (hW.keep hb0)
  have HX := Lib.hid hx
  have HK := Lib.hid (kids_0 (hW.keep hb0) hx (arN_leaf (by omega)))
  have HS := Lib.hid (fun (W : World) => rsign_any W x.op)
  obtain ⟨sg, hsg⟩ : ∃ s, signB x.op = s := ⟨_, rfl⟩
  have hsgl : sg.size ≤ 8 := by rw [← hsg]; exact signB_size x.op
  rw [hsg] at HS
  (try rw [hsg])
  have HKA := Lib.hid hA
  obtain ⟨p0, p1, p2, p3, p4, p5, p6, p7, p8⟩ := hA.nine
  obtain ⟨E, hE⟩ : ∃ E : Int, ((e : Nat) : Int) = E := ⟨_, rfl⟩
  have hez : E < (O.length : Int) := by clear HK; omega
  have he0 : (0 : Int) ≤ E := by clear HK; omega
  have ht1 : E.toNat = e := by clear HK; omega
  rw [hE]
  rw [hE] at HK
  rw [hsg] at HP
  have HO := Lib.hid hop
  rw [hop] at HS hW0 p0 a0
  clear hop
  have n1 : ¬ 9223372036854775807 < sg.size + 1 := by omega
  have n2 : ¬ 9223372036854775807 < sg.size + 1 + x.name.size := by omega
  clear hE hA hb0 hW hx hlt hsg
  go_enter Tryd.func17, Tryd.ntmps17
  go_upto_region 2 with fail
  clear hW0 a0 a1 a2 a3 a4 a5 a6 a7 a8 p0 p1 p2 p3 p4 p5 p6 p7 p8
  go_wp2_with fail
  refine HK.out.mono ?_
  rintro en w0 ⟨rfl, hw⟩
  rw [hw]; clear hw
  obtain ⟨p0, p1, p2, p3, p4, p5, p6, p7, p8⟩ := HKA.out.nine
  rw [HO.out] at p0
  go_wp2_with fail
  refine (HS.out _).mono ?_
  rintro en w1 ⟨rfl, hb1⟩
  have HB1 := Lib.hid (HB0.out.trans (hb1.mono HB0.out.size))
  have hk1 := HKA.out.keep hb1
  have HK1 := Lib.hid hk1
  obtain ⟨q0, q1, q2, q3, q4, q5, q6, q7, q8⟩ := hk1.nine
  clear p0 p1 p2 p3 p4 p5 p6 p7 p8 hb1 hk1
  rw [HO.out] at q0
  go_wp2
  go_ret
  exact ⟨rfl, HB1.out⟩

set_option maxRecDepth 100000 in
set_option maxHeartbeats 2000000 in
theorem rtext_11 {O : List It} {v : Value} {e : Nat} {x : It} (hx : O[e]? = some x) (hs : Short x) (hop : x.op = 11) : TextAt O v (atomTx x) e := by
  obtain ⟨hs1, hs2, hs3, hs4, hs5, hs6⟩ := hs
  have HP := Lib.hid (show atomTx x = signB x.op ++ sp8 ++ x.name ∧ namedB x = nameOK x.name from atomTx_of (x := x) (by omega))
  rw [HP.out.1]
  intro W hW
  obtain ⟨g, off, cap, hv, hgl, a0, a1, a2, a3, a4, a5, a6, a7, a8⟩ := hW.at hx
  subst hv
  have hlt := (List.getElem?_eq_some_iff.1 hx).1
  obtain ⟨W0, hW0⟩ : ∃ W0, W.alloc (.cells #[.int .i64 x.op, .string x.ln, .int .i64 x.lnum, .string x.rn, .int .i64 x.rnum, .string x.name, .string x.user, .int .i64 x.line, .int .i64 x.col] 36) = W0 := ⟨_, rfl⟩
  have hA : Blk W0 W.heap.size #[.int .i64 x.op, .string x.ln, .int .i64 x.lnum, .string x.rn, .int .i64 x.rnum, .string x.name, .string x.user, .int .i64 x.line, .int .i64 x.col] 36 := by rw [← hW0]; exact Blk.new W _ _
  have hb0 : Below W.heap.size W W0 := by rw [← hW0]; exact (Below.refl _ W).alloc (Nat.le_refl _) _
  have HB0 := Lib.hid hb0
  have HI0 := Lib.hid (hW.keep hb0)
  have HX := Lib.hid hx
  have HK := Lib.hid (kids_0 (hW.keep hb0) hx (arN_leaf (by omega)))
  have HS := Lib.hid (fun (W : World) => rsign_any W x.op)
  obtain ⟨sg, hsg⟩ : ∃ s, signB x.op = s := ⟨_, rfl⟩
  have hsgl : sg.size ≤ 8 := by rw [← hsg]; exact signB_size x.op
  rw [hsg] at HS
  (try rw [hsg])
  have HKA := Lib.hid hA
  obtain ⟨p0, p1, p2, p3, p4, p5, p6, p7, p8⟩ := hA.nine
  obtain ⟨E, hE⟩ : ∃ E : Int, ((e : Nat) : Int) = E := ⟨_, rfl⟩
  have hez : E < (O.length : Int) := by clear HK; omega
  have he0 : (0 : Int) ≤ E := by clear HK; omega
  have ht1 : E.toNat = e := by clear HK; omega
  rw [hE]
  rw [hE] at HK
  rw [hsg] at HP
  have HO := Lib.hid hop
  rw [hop] at HS hW0 p0 a0
  clear hop
  have n1 : ¬ 9223372036854775807 < sg.size + 1 := by omega
  have n2 : ¬ 9223372036854775807 < sg.size + 1 + x.name.size := by omega
  clear hE hA hb0 hW hx hlt hsg
  go_enter Tryd.func17, Tryd.ntmps17
  go_upto_region 2 with fail
  clear hW0 a0 a1 a2 a3 a4 a5 a6 a7 a8 p0 p1 p2 p3 p4 p5 p6 p7 p8
  go_wp2_with fail
  refine HK.out.mono ?_
  rintro en w0 ⟨rfl, hw⟩
  rw [hw]; clear hw
  obtain ⟨p0, p1, p2, p3, p4, p5, p6, p7, p8⟩ := HKA.out.nine
  rw [HO.out] at p0
  go_wp2_with fail
  refine (HS.out _).mono ?_
  rintro en w1 ⟨rfl, hb1⟩
  have HB1 := Lib.hid (HB0.out.trans (hb1.mono HB0.out.size))
  have hk1 := HKA.out.keep hb1
  have HK1 := Lib.hid hk1
  obtain ⟨q0, q1, q2, q3, q4, q5, q6, q7, q8⟩ := hk1.nine
  clear p0 p1 p2 p3 p4 p5 p6 p7 p8 hb1 hk1
  rw [HO.out] at q0
  go_wp2
  go_ret
  exact ⟨rfl, HB1.out⟩

set_option maxRecDepth 100000 in
set_option maxHeartbeats 2000000 in
theorem rtext_12 {O : List It} {v : Value} {e : Nat} {x : It} (hx : O[e]? = some x) (hs : Short x) (hop : x.op = 12) : TextAt O v (atomTx x) e := by
  obtain ⟨hs1, hs2, hs3, hs4, hs5, hs6⟩ := hs
  have HP := Lib.hid (show atomTx x = signB x.op ++ sp8 ++ x.user ++ sp8 ++ x.name ∧ namedB x = (nameOK x.user && nameOK x.name) from by rw [hop]; exact atomTx_did (x := x) hop)
  rw [HP.out.1]
  intro W hW
  obtain ⟨g, off, cap, hv, hgl, a0, a1, a2, a3, a4, a5, a6, a7, a8⟩ := hW.at hx
  subst hv
  have hlt := (List.getElem?_eq_some_iff.1 hx).1
  obtain ⟨W0, hW0⟩ : ∃ W0, W.alloc (.cells #[.int .i64 x.op, .string x.ln, .int .i64 x.lnum, .string x.rn, .int .i64 x.rnum, .string x.name, .string x.user, .int .i64 x.line, .int .i64 x.col] 36) = W0 := ⟨_, rfl⟩
  have hA : Blk W0 W.heap.size #[.int .i64 x.op, .string x.ln, .int .i64 x.lnum, .string x.rn, .int .i64 x.rnum, .string x.name, .string x.user, .int .i64 x.line, .int .i64 x.col] 36 := by rw [← hW0]; exact Blk.new W _ _
  have hb0 : Below W.heap.size W W0 := by rw [← hW0]; exact (Below.refl _ W).alloc (Nat.le_refl _) _
  have HB0 := Lib.hid hb0
  have HI0 := Lib.hid (hW.keep hb0)
  have HX := Lib.hid hx
  have HK := Lib.hid (kids_0 (hW.keep hb0) hx (arN_leaf (by omega)))
  have HS := Lib.hid (fun (W : World) => rsign_any W x.op)
  obtain ⟨sg, hsg⟩ : ∃ s, signB x.op = s := ⟨_, rfl⟩
  have hsgl : sg.size ≤ 8 := by rw [← hsg]; exact signB_size x.op
  rw [hsg] at HS
  (try rw [hsg])
  have HKA := Lib.hid hA
  obtain ⟨p0, p1, p2, p3, p4, p5, p6, p7, p8⟩ := hA.nine
  obtain ⟨E, hE⟩ : ∃ E : Int, ((e : Nat) : Int) = E := ⟨_, rfl⟩
  have hez : E < (O.length : Int) := by clear HK; omega
  have he0 : (0 : Int) ≤ E := by clear HK; omega
  have ht1 : E.toNat = e := by clear HK; omega
  rw [hE]
  rw [hE] at HK
  rw [hsg] at HP
  have HO := Lib.hid hop
  rw [hop] at HS hW0 p0 a0
  clear hop
  have n1 : ¬ 9223372036854775807 < sg.size + 1 := by omega
  have n2 : ¬ 9223372036854775807 < sg.size + 1 + x.user.size := by omega
  have n3 : ¬ 9223372036854775807 < sg.size + 1 + x.user.size + 1 := by omega
  have n4 : ¬ 9223372036854775807 < sg.size + 1 + x.user.size + 1 + x.name.size := by omega
  clear hE hA hb0 hW hx hlt hsg
  go_enter Tryd.func17, Tryd.ntmps17
  go_upto_region 2 with fail
  clear hW0 a0 a1 a2 a3 a4 a5 a6 a7 a8 p0 p1 p2 p3 p4 p5 p6 p7 p8
  go_wp2_with fail
  refine HK.out.mono ?_
  rintro en w0 ⟨rfl, hw⟩
  rw [hw]; clear hw
  obtain ⟨p0, p1, p2, p3, p4, p5, p6, p7, p8⟩ := HKA.out.nine
  rw [HO.out] at p0
  go_wp2_with fail
  refine (HS.out _).mono ?_
  rintro en w1 ⟨rfl, hb1⟩
  have HB1 := Lib.hid (HB0.out.trans (hb1.mono HB0.out.size))
  have hk1 := HKA.out.keep hb1
  have HK1 := Lib.hid hk1
  obtain ⟨q0, q1, q2, q3, q4, q5, q6, q7, q8⟩ := hk1.nine
  clear p0 p1 p2 p3 p4 p5 p6 p7 p8 hb1 hk1
  rw [HO.out] at q0
  go_wp2
  go_ret
  exact ⟨rfl, HB1.out⟩

set_option maxRecDepth 100000 in
set_option maxHeartbeats 2000000 in
theorem rtext_cmp {O : List It} {v : Value} {e : Nat} {x : It} (hx : O[e]? = some x) (hs : Short x) (hop : 3 ≤ x.op ∧ x.op ≤ 8) : TextAt O v (atomTx x) e := by
  obtain ⟨hs1, hs2, hs3, hs4, hs5, hs6⟩ := hs
  have HP := Lib.hid (atomTx_cmp hop)
  rw [HP.out.1]
  intro W hW
  obtain ⟨g, off, cap, hv, hgl, a0, a1, a2, a3, a4, a5, a6, a7, a8⟩ := hW.at hx
  subst hv
  have hlt := (List.getElem?_eq_some_iff.1 hx).1
  obtain ⟨W0, hW0⟩ : ∃ W0, W.alloc (.cells #[.int .i64 x.op, .string x.ln, .int .i64 x.lnum, .string x.rn, .int .i64 x.rnum, .string x.name, .string x.user, .int .i64 x.line, .int .i64 x.col] 36) = W0 := ⟨_, rfl⟩
  have hA : Blk W0 W.heap.size #[.int .i64 x.op, .string x.ln, .int .i64 x.lnum, .string x.rn, .int .i64 x.rnum, .string x.name, .string x.user, .int .i64 x.line, .int .i64 x.col] 36 := by rw [← hW0]; exact Blk.new W _ _
  have hb0 : Below W.heap.size W W0 := by rw [← hW0]; exact (Below.refl _ W).alloc (Nat.le_refl _) _
  have HB0 := Lib.hid hb0
  have HI0 := Lib.hid (hW.keep hb0)
  have HX := Lib.hid hx
  have HK := Lib.hid (kids_0 (hW.keep hb0) hx (arN_leaf (by omega)))
  have HS := Lib.hid (fun (W : World) => rsign_any W x.op)
  obtain ⟨sg, hsg⟩ : ∃ s, signB x.op = s := ⟨_, rfl⟩
  have hsgl : sg.size ≤ 8 := by rw [← hsg]; exact signB_size x.op
  rw [hsg] at HS
  (try rw [hsg])
  have HKA := Lib.hid hA
  obtain ⟨p0, p1, p2, p3, p4, p5, p6, p7, p8⟩ := hA.nine
  obtain ⟨E, hE⟩ : ∃ E : Int, ((e : Nat) : Int) = E := ⟨_, rfl⟩
  have hez : E < (O.length : Int) := by clear HK; omega
  have he0 : (0 : Int) ≤ E := by clear HK; omega
  have ht1 : E.toNat = e := by clear HK; omega
  rw [hE]
  rw [hE] at HK
  rw [hsg] at HP
  have d1b : decide ((25 : Int) ≤ x.op) = false := decide_eq_false (by omega)
  have d2 : (x.op == 18) = false := beq_eq_false_iff_ne.2 (by omega)
  have d3 : decide ((3 : Int) ≤ x.op) = true := decide_eq_true hop.1
  have d4 : decide (x.op ≤ (8 : Int)) = true := decide_eq_true hop.2
  have HW := Lib.hid (fun (W : World) => rword_any (w := W) x.ln x.lnum hs5.1 hs5.2)
  have HV := Lib.hid (fun (W : World) => rword_any (w := W) x.rn x.rnum hs6.1 hs6.2)
  obtain ⟨u, hu⟩ : ∃ s, wordTx x.ln x.lnum = s := ⟨_, rfl⟩
  have hul : u.size ≤ 60 := by rw [← hu]; exact wordTx_size hs1 hs5
  obtain ⟨y, hy⟩ : ∃ s, wordTx x.rn x.rnum = s := ⟨_, rfl⟩
  have hyl : y.size ≤ 60 := by rw [← hy]; exact wordTx_size hs2 hs6
  rw [hu] at HW HP ⊢
  rw [hy] at HV HP ⊢
  clear hu hy hop hs5 hs6
  have n1 : ¬ 9223372036854775807 < u.size + 1 := by omega
  have n2 : ¬ 9223372036854775807 < u.size + 1 + sg.size := by omega
  have n3 : ¬ 9223372036854775807 < u.size + 1 + sg.size + 1 := by omega
  have n4 : ¬ 9223372036854775807 < u.size + 1 + sg.size + 1 + y.size := by omega
  clear hE hA hb0 hW hx hlt hsg
  go_enter Tryd.func17, Tryd.ntmps17
  go_upto_region 2 with fail
  clear hW0 a0 a1 a2 a3 a4 a5 a6 a7 a8 p0 p1 p2 p3 p4 p5 p6 p7 p8
  go_wp2_with fail
  refine HK.out.mono ?_
  rintro en w0 ⟨rfl, hw⟩
  rw [hw]; clear hw
  obtain ⟨p0, p1, p2, p3, p4, p5, p6, p7, p8⟩ := HKA.out.nine
  go_wp2_with fail
  refine (HS.out _).mono ?_
  rintro en w1 ⟨rfl, hb1⟩
  have HB1 := Lib.hid (HB0.out.trans (hb1.mono HB0.out.size))
  have hk1 := HKA.out.keep hb1
  have HK1 := Lib.hid hk1
  obtain ⟨q0, q1, q2, q3, q4, q5, q6, q7, q8⟩ := hk1.nine
  clear p0 p1 p2 p3 p4 p5 p6 p7 p8 hb1 hk1
  obtain ⟨_, z1, z2, z3, z4, _⟩ := HK1.out.drew.nine
  go_wp2
  go_region_held3 (fun w' => w'.cell? ⟨W.heap.size, 1, none⟩ = some (.string x.ln) ∧ w'.cell? ⟨W.heap.size, 2, none⟩ = some (.int .i64 x.lnum) ∧ w'.cell? ⟨W.heap.size, 3, none⟩ = some (.string x.rn) ∧ w'.cell? ⟨W.heap.size, 4, none⟩ = some (.int .i64 x.rnum))
    (first | (with_reducible exact ⟨z1, z2, z3, z4⟩) | (with_reducible exact ⟨r1, r2, r3, r4⟩) | (with_reducible exact ⟨t1, t2, t3, t4⟩) | (trace_state; fail))
    (first
      | (go_simp; go_at_call 32; (with_reducible refine (HW.out _).mono ?_)
         rintro en w2 ⟨rfl, hb2⟩
         have HB2 := Lib.hid (HB1.out.drew.trans (hb2.mono HB1.out.drew.size))
         have hk2 := HK1.out.drew.keep hb2
         have HK2 := Lib.hid hk2
         obtain ⟨_, r1, r2, r3, r4, _⟩ := hk2.nine
         clear hb2 hk2)
      | (go_simp; go_at_call 32; (with_reducible refine (HV.out _).mono ?_)
         rintro en w3 ⟨rfl, hb3⟩
         have HB3 := Lib.hid (HB2.out.trans (hb3.mono HB2.out.size))
         have hk3 := HK2.out.keep hb3
         obtain ⟨_, t1, t2, t3, t4, _⟩ := hk3.nine
         clear hb3 hk3))
  all_goals
    go_wp2
    go_ret
    exact ⟨rfl, HB3.out⟩

theorem rtext_leaf {O : List It} {v : Value} {e : Nat} {x : It} (hx : O[e]? = some x) (hs : Short x) (hop : arN x.op = 0) : TextAt O v (atomTx x) e := by
  have h : 1 ≤ x.op ∧ x.op ≤ 14 := by
    unfold arN at hop
    split at hop
    · assumption
    split at hop
    · omega
    split at hop
    · omega
    · omega
  rcases (show x.op = 1 ∨ x.op = 2 ∨ (3 ≤ x.op ∧ x.op ≤ 8) ∨ x.op = 9 ∨ x.op = 10 ∨ x.op = 11 ∨ x.op = 12 ∨ x.op = 13 ∨ x.op = 14 by omega) with h | h | h | h | h | h | h | h | h
  · exact rtext_1 hx hs h
  · exact rtext_2 hx hs h
  · exact rtext_cmp hx hs h
  · exact rtext_9 hx hs h
  · exact rtext_10 hx hs h
  · exact rtext_11 hx hs h
  · exact rtext_12 hx hs h
  · exact rtext_13 hx hs h
  · exact rtext_14 hx hs h

end Go.Proofs.YthhjepgcbfmfeaaDoor
