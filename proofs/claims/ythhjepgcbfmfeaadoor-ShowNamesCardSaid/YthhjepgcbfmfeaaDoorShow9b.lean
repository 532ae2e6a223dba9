/- Contracts of warderref06's text at a formula of one, and of two. -/
import Derived.Test.YthhjepgcbfmfeaaDoorShow9
namespace Go.Proofs.YthhjepgcbfmfeaaDoor
open Go.RowKit

theorem inF_1 (op : Int) (s : ByteArray) : inF (tightN op) 1 s = s := by
  refine inF_no ?_
  unfold tightN
  repeat' split
  all_goals omega
set_option maxRecDepth 100000 in
set_option maxHeartbeats 2000000 in
theorem rtext_one15 {O : List It} {v : Value} {e : Nat} {x : It} {f : Fm} (hx : O[e + 1]? = some x) (hl : O.length ≤ 1000) (hS : SideOK O v f e 4) (hsz : (textF f).size ≤ 100000) (hop : x.op = 15) : TextAt O v (signB x.op ++ sp8 ++ inF (tightN f.op) 4 (textF f)) (e + 1) := by
  obtain ⟨y, hy⟩ : ∃ s, inF (tightN f.op) 4 (textF f) = s := ⟨_, rfl⟩
  have hyl : y.size ≤ 100002 := by rw [← hy]; have := inF_size (tightN f.op) 4 (textF f); omega
  have HSD := Lib.hid hS
  unfold SideOK at HSD
  rw [hy] at HSD ⊢
  clear hy hS
  intro W hW
  obtain ⟨g, off, cap, hv, hgl, a0, a1, a2, a3, a4, a5, a6, a7, a8⟩ := hW.at hx
  subst hv
  have hlt := (List.getElem?_eq_some_iff.1 hx).1
  obtain ⟨W0, hW0⟩ : ∃ W0, W.alloc (.cells #[.int .i64 x.op, .string x.ln, .int .i64 x.lnum, .string x.rn, .int .i64 x.rnum, .string x.name, .string x.user, .int .i64 x.line, .int .i64 x.col] 36) = W0 := ⟨_, rfl⟩
  have hA : Blk W0 W.heap.size #[.int .i64 x.op, .string x.ln, .int .i64 x.lnum, .string x.rn, .int .i64 x.rnum, .string x.name, .string x.user, .int .i64 x.line, .int .i64 x.col] 36 := by rw [← hW0]; exact Blk.new W _ _
  have hb0 : Below W.heap.size W W0 := by rw [← hW0]; exact (Below.refl _ W).alloc (Nat.le_refl _) _
  have HB0 := Lib.hid hb0
  have HI0 := Lib.hid (hW.keep hb0)
  have HX := Lib.hid hx
  have HK := Lib.hid (kids_1 (hW.keep hb0) hx (by rw [hop]; rfl) hl)
  have HS := Lib.hid (fun (W : World) => rsign_any W x.op)
  obtain ⟨sg, hsg⟩ : ∃ s, signB x.op = s := ⟨_, rfl⟩
  have hsgl : sg.size ≤ 8 := by rw [← hsg]; exact signB_size x.op
  rw [hsg] at HS
  (try rw [hsg])
  have HKA := Lib.hid hA
  obtain ⟨p0, p1, p2, p3, p4, p5, p6, p7, p8⟩ := hA.nine
  obtain ⟨E, hE⟩ : ∃ E : Int, (((e + 1) : Nat) : Int) = E := ⟨_, rfl⟩
  have hez : E < (O.length : Int) := by clear HK; omega
  have he0 : (0 : Int) ≤ E := by clear HK; omega
  have ht1 : E.toNat = (e + 1) := by clear HK; omega
  rw [hE]
  rw [show ((e : Nat) : Int) + 1 = E by clear HK; omega] at HK
  have HO := Lib.hid hop
  rw [hop] at HS hW0 p0 a0
  have n1 : ¬ 9223372036854775807 < sg.size + 1 := by omega
  have n2 : ¬ 9223372036854775807 < sg.size + 1 + y.size := by omega
  clear hE hA hb0 hW hx hlt hsg hop
  go_enter Tryd.func17, Tryd.ntmps17
  go_upto_region 2 with fail
  clear hW0 a0 a1 a2 a3 a4 a5 a6 a7 a8 p0 p1 p2 p3 p4 p5 p6 p7 p8
  go_wp2_with fail
  refine HK.out.mono ?_
  rintro en w0 ⟨rfl, hw⟩
  have hwb : Below W0.heap.size W0 w0 := by rw [hw]; exact (Below.refl _ _).alloc (Nat.le_refl _) _
  have hkb : Blk w0 W0.heap.size #[.int .i64 e] 3 := by rw [hw]; exact Blk.new _ _ _
  have HBW := Lib.hid (HB0.out.trans (hwb.mono HB0.out.size))
  have HIW := Lib.hid (HI0.out.keep hwb)
  have HKW := Lib.hid (HKA.out.keep hwb)
  obtain ⟨p0, p1, p2, p3, p4, p5, p6, p7, p8⟩ := HKW.out.nine
  rw [HO.out] at p0
  have HKB := Lib.hid hkb
  clear hw hwb hkb
  go_wp2_with fail
  refine (HS.out _).mono ?_
  rintro en w1 ⟨rfl, hb1⟩
  have HB1 := Lib.hid (HBW.out.trans (hb1.mono HBW.out.size))
  have HI1 := Lib.hid (HIW.out.keep hb1)
  have HK1 := Lib.hid (HKW.out.keep hb1)
  have HC1 := Lib.hid (HKB.out.keep hb1)
  obtain ⟨q0, q1, q2, q3, q4, q5, q6, q7, q8⟩ := HK1.out.nine
  rw [HO.out] at q0
  clear p0 p1 p2 p3 p4 p5 p6 p7 p8 hb1 q1 q2 q3 q4 q5 q6 q7 q8
  have c0 := HC1.out.cell (i := 0) rfl
  go_wp2_with fail
  refine (HSD.out _ HI1.out).mono ?_
  rintro en w2 ⟨rfl, hb2⟩
  have HB2 := Lib.hid (HB1.out.trans (hb2.mono HB1.out.size))
  clear hb2
  go_wp2
  go_ret
  exact ⟨rfl, HB2.out⟩

set_option maxRecDepth 100000 in
set_option maxHeartbeats 2000000 in
theorem rtext_one19 {O : List It} {v : Value} {e : Nat} {x : It} {f : Fm} (hx : O[e + 1]? = some x) (hl : O.length ≤ 1000) (hS : SideOK O v f e 4) (hsz : (textF f).size ≤ 100000) (hop : x.op = 19) : TextAt O v (signB x.op ++ sp8 ++ inF (tightN f.op) 4 (textF f)) (e + 1) := by
  obtain ⟨y, hy⟩ : ∃ s, inF (tightN f.op) 4 (textF f) = s := ⟨_, rfl⟩
  have hyl : y.size ≤ 100002 := by rw [← hy]; have := inF_size (tightN f.op) 4 (textF f); omega
  have HSD := Lib.hid hS
  unfold SideOK at HSD
  rw [hy] at HSD ⊢
  clear hy hS
  intro W hW
  obtain ⟨g, off, cap, hv, hgl, a0, a1, a2, a3, a4, a5, a6, a7, a8⟩ := hW.at hx
  subst hv
  have hlt := (List.getElem?_eq_some_iff.1 hx).1
  obtain ⟨W0, hW0⟩ : ∃ W0, W.alloc (.cells #[.int .i64 x.op, .string x.ln, .int .i64 x.lnum, .string x.rn, .int .i64 x.rnum, .string x.name, .string x.user, .int .i64 x.line, .int .i64 x.col] 36) = W0 := ⟨_, rfl⟩
  have hA : Blk W0 W.heap.size #[.int .i64 x.op, .string x.ln, .int .i64 x.lnum, .string x.rn, .int .i64 x.rnum, .string x.name, .string x.user, .int .i64 x.line, .int .i64 x.col] 36 := by rw [← hW0]; exact Blk.new W _ _
  have hb0 : Below W.heap.size W W0 := by rw [← hW0]; exact (Below.refl _ W).alloc (Nat.le_refl _) _
  have HB0 := Lib.hid hb0
  have HI0 := Lib.hid (hW.keep hb0)
  have HX := Lib.hid hx
  have HK := Lib.hid (kids_1 (hW.keep hb0) hx (by rw [hop]; rfl) hl)
  have HS := Lib.hid (fun (W : World) => rsign_any W x.op)
  obtain ⟨sg, hsg⟩ : ∃ s, signB x.op = s := ⟨_, rfl⟩
  have hsgl : sg.size ≤ 8 := by rw [← hsg]; exact signB_size x.op
  rw [hsg] at HS
  (try rw [hsg])
  have HKA := Lib.hid hA
  obtain ⟨p0, p1, p2, p3, p4, p5, p6, p7, p8⟩ := hA.nine
  obtain ⟨E, hE⟩ : ∃ E : Int, (((e + 1) : Nat) : Int) = E := ⟨_, rfl⟩
  have hez : E < (O.length : Int) := by clear HK; omega
  have he0 : (0 : Int) ≤ E := by clear HK; omega
  have ht1 : E.toNat = (e + 1) := by clear HK; omega
  rw [hE]
  rw [show ((e : Nat) : Int) + 1 = E by clear HK; omega] at HK
  have HO := Lib.hid hop
  rw [hop] at HS hW0 p0 a0
  have n1 : ¬ 9223372036854775807 < sg.size + 1 := by omega
  have n2 : ¬ 9223372036854775807 < sg.size + 1 + y.size := by omega
  clear hE hA hb0 hW hx hlt hsg hop
  go_enter Tryd.func17, Tryd.ntmps17
  go_upto_region 2 with fail
  clear hW0 a0 a1 a2 a3 a4 a5 a6 a7 a8 p0 p1 p2 p3 p4 p5 p6 p7 p8
  go_wp2_with fail
  refine HK.out.mono ?_
  rintro en w0 ⟨rfl, hw⟩
  have hwb : Below W0.heap.size W0 w0 := by rw [hw]; exact (Below.refl _ _).alloc (Nat.le_refl _) _
  have hkb : Blk w0 W0.heap.size #[.int .i64 e] 3 := by rw [hw]; exact Blk.new _ _ _
  have HBW := Lib.hid (HB0.out.trans (hwb.mono HB0.out.size))
  have HIW := Lib.hid (HI0.out.keep hwb)
  have HKW := Lib.hid (HKA.out.keep hwb)
  obtain ⟨p0, p1, p2, p3, p4, p5, p6, p7, p8⟩ := HKW.out.nine
  rw [HO.out] at p0
  have HKB := Lib.hid hkb
  clear hw hwb hkb
  go_wp2_with fail
  refine (HS.out _).mono ?_
  rintro en w1 ⟨rfl, hb1⟩
  have HB1 := Lib.hid (HBW.out.trans (hb1.mono HBW.out.size))
  have HI1 := Lib.hid (HIW.out.keep hb1)
  have HK1 := Lib.hid (HKW.out.keep hb1)
  have HC1 := Lib.hid (HKB.out.keep hb1)
  obtain ⟨q0, q1, q2, q3, q4, q5, q6, q7, q8⟩ := HK1.out.nine
  rw [HO.out] at q0
  clear p0 p1 p2 p3 p4 p5 p6 p7 p8 hb1 q1 q2 q3 q4 q5 q6 q7 q8
  have c0 := HC1.out.cell (i := 0) rfl
  go_wp2_with fail
  refine (HSD.out _ HI1.out).mono ?_
  rintro en w2 ⟨rfl, hb2⟩
  have HB2 := Lib.hid (HB1.out.trans (hb2.mono HB1.out.size))
  clear hb2
  go_wp2
  go_ret
  exact ⟨rfl, HB2.out⟩

set_option maxRecDepth 100000 in
set_option maxHeartbeats 2000000 in
theorem rtext_one20 {O : List It} {v : Value} {e : Nat} {x : It} {f : Fm} (hx : O[e + 1]? = some x) (hl : O.length ≤ 1000) (hS : SideOK O v f e 4) (hsz : (textF f).size ≤ 100000) (hop : x.op = 20) : TextAt O v (signB x.op ++ sp8 ++ inF (tightN f.op) 4 (textF f)) (e + 1) := by
  obtain ⟨y, hy⟩ : ∃ s, inF (tightN f.op) 4 (textF f) = s := ⟨_, rfl⟩
  have hyl : y.size ≤ 100002 := by rw [← hy]; have := inF_size (tightN f.op) 4 (textF f); omega
  have HSD := Lib.hid hS
  unfold SideOK at HSD
  rw [hy] at HSD ⊢
  clear hy hS
  intro W hW
  obtain ⟨g, off, cap, hv, hgl, a0, a1, a2, a3, a4, a5, a6, a7, a8⟩ := hW.at hx
  subst hv
  have hlt := (List.getElem?_eq_some_iff.1 hx).1
  obtain ⟨W0, hW0⟩ : ∃ W0, W.alloc (.cells #[.int .i64 x.op, .string x.ln, .int .i64 x.lnum, .string x.rn, .int .i64 x.rnum, .string x.name, .string x.user, .int .i64 x.line, .int .i64 x.col] 36) = W0 := ⟨_, rfl⟩
  have hA : Blk W0 W.heap.size #[.int .i64 x.op, .string x.ln, .int .i64 x.lnum, .string x.rn, .int .i64 x.rnum, .string x.name, .string x.user, .int .i64 x.line, .int .i64 x.col] 36 := by rw [← hW0]; exact Blk.new W _ _
  have hb0 : Below W.heap.size W W0 := by rw [← hW0]; exact (Below.refl _ W).alloc (Nat.le_refl _) _
  have HB0 := Lib.hid hb0
  have HI0 := Lib.hid (hW.keep hb0)
  have HX := Lib.hid hx
  have HK := Lib.hid (kids_1 (hW.keep hb0) hx (by rw [hop]; rfl) hl)
  have HS := Lib.hid (fun (W : World) => rsign_any W x.op)
  obtain ⟨sg, hsg⟩ : ∃ s, signB x.op = s := ⟨_, rfl⟩
  have hsgl : sg.size ≤ 8 := by rw [← hsg]; exact signB_size x.op
  rw [hsg] at HS
  (try rw [hsg])
  have HKA := Lib.hid hA
  obtain ⟨p0, p1, p2, p3, p4, p5, p6, p7, p8⟩ := hA.nine
  obtain ⟨E, hE⟩ : ∃ E : Int, (((e + 1) : Nat) : Int) = E := ⟨_, rfl⟩
  have hez : E < (O.length : Int) := by clear HK; omega
  have he0 : (0 : Int) ≤ E := by clear HK; omega
  have ht1 : E.toNat = (e + 1) := by clear HK; omega
  rw [hE]
  rw [show ((e : Nat) : Int) + 1 = E by clear HK; omega] at HK
  have HO := Lib.hid hop
  rw [hop] at HS hW0 p0 a0
  have n1 : ¬ 9223372036854775807 < sg.size + 1 := by omega
  have n2 : ¬ 9223372036854775807 < sg.size + 1 + y.size := by omega
  clear hE hA hb0 hW hx hlt hsg hop
  go_enter Tryd.func17, Tryd.ntmps17
  go_upto_region 2 with fail
  clear hW0 a0 a1 a2 a3 a4 a5 a6 a7 a8 p0 p1 p2 p3 p4 p5 p6 p7 p8
  go_wp2_with fail
  refine HK.out.mono ?_
  rintro en w0 ⟨rfl, hw⟩
  have hwb : Below W0.heap.size W0 w0 := by rw [hw]; exact (Below.refl _ _).alloc (Nat.le_refl _) _
  have hkb : Blk w0 W0.heap.size #[.int .i64 e] 3 := by rw [hw]; exact Blk.new _ _ _
  have HBW := Lib.hid (HB0.out.trans (hwb.mono HB0.out.size))
  have HIW := Lib.hid (HI0.out.keep hwb)
  have HKW := Lib.hid (HKA.out.keep hwb)
  obtain ⟨p0, p1, p2, p3, p4, p5, p6, p7, p8⟩ := HKW.out.nine
  rw [HO.out] at p0
  have HKB := Lib.hid hkb
  clear hw hwb hkb
  go_wp2_with fail
  refine (HS.out _).mono ?_
  rintro en w1 ⟨rfl, hb1⟩
  have HB1 := Lib.hid (HBW.out.trans (hb1.mono HBW.out.size))
  have HI1 := Lib.hid (HIW.out.keep hb1)
  have HK1 := Lib.hid (HKW.out.keep hb1)
  have HC1 := Lib.hid (HKB.out.keep hb1)
  obtain ⟨q0, q1, q2, q3, q4, q5, q6, q7, q8⟩ := HK1.out.nine
  rw [HO.out] at q0
  clear p0 p1 p2 p3 p4 p5 p6 p7 p8 hb1 q1 q2 q3 q4 q5 q6 q7 q8
  have c0 := HC1.out.cell (i := 0) rfl
  go_wp2_with fail
  refine (HSD.out _ HI1.out).mono ?_
  rintro en w2 ⟨rfl, hb2⟩
  have HB2 := Lib.hid (HB1.out.trans (hb2.mono HB1.out.size))
  clear hb2
  go_wp2
  go_ret
  exact ⟨rfl, HB2.out⟩

set_option maxRecDepth 100000 in
set_option maxHeartbeats 2000000 in
theorem rtext_one21 {O : List It} {v : Value} {e : Nat} {x : It} {f : Fm} (hx : O[e + 1]? = some x) (hl : O.length ≤ 1000) (hS : SideOK O v f e 4) (hsz : (textF f).size ≤ 100000) (hop : x.op = 21) : TextAt O v (signB x.op ++ sp8 ++ inF (tightN f.op) 4 (textF f)) (e + 1) := by
  obtain ⟨y, hy⟩ : ∃ s, inF (tightN f.op) 4 (textF f) = s := ⟨_, rfl⟩
  have hyl : y.size ≤ 100002 := by rw [← hy]; have := inF_size (tightN f.op) 4 (textF f); omega
  have HSD := Lib.hid hS
  unfold SideOK at HSD
  rw [hy] at HSD ⊢
  clear hy hS
  intro W hW
  obtain ⟨g, off, cap, hv, hgl, a0, a1, a2, a3, a4, a5, a6, a7, a8⟩ := hW.at hx
  subst hv
  have hlt := (List.getElem?_eq_some_iff.1 hx).1
  obtain ⟨W0, hW0⟩ : ∃ W0, W.alloc (.cells #[.int .i64 x.op, .string x.ln, .int .i64 x.lnum, .string x.rn, .int .i64 x.rnum, .string x.name, .string x.user, .int .i64 x.line, .int .i64 x.col] 36) = W0 := ⟨_, rfl⟩
  have hA : Blk W0 W.heap.size #[.int .i64 x.op, .string x.ln, .int .i64 x.lnum, .string x.rn, .int .i64 x.rnum, .string x.name, .string x.user, .int .i64 x.line, .int .i64 x.col] 36 := by rw [← hW0]; exact Blk.new W _ _
  have hb0 : Below W.heap.size W W0 := by rw [← hW0]; exact (Below.refl _ W).alloc (Nat.le_refl _) _
  have HB0 := Lib.hid hb0
  have HI0 := Lib.hid (hW.keep hb0)
  have HX := Lib.hid hx
  have HK := Lib.hid (kids_1 (hW.keep hb0) hx (by rw [hop]; rfl) hl)
  have HS := Lib.hid (fun (W : World) => rsign_any W x.op)
  obtain ⟨sg, hsg⟩ : ∃ s, signB x.op = s := ⟨_, rfl⟩
  have hsgl : sg.size ≤ 8 := by rw [← hsg]; exact signB_size x.op
  rw [hsg] at HS
  (try rw [hsg])
  have HKA := Lib.hid hA
  obtain ⟨p0, p1, p2, p3, p4, p5, p6, p7, p8⟩ := hA.nine
  obtain ⟨E, hE⟩ : ∃ E : Int, (((e + 1) : Nat) : Int) = E := ⟨_, rfl⟩
  have hez : E < (O.length : Int) := by clear HK; omega
  have he0 : (0 : Int) ≤ E := by clear HK; omega
  have ht1 : E.toNat = (e + 1) := by clear HK; omega
  rw [hE]
  rw [show ((e : Nat) : Int) + 1 = E by clear HK; omega] at HK
  have HO := Lib.hid hop
  rw [hop] at HS hW0 p0 a0
  have n1 : ¬ 9223372036854775807 < sg.size + 1 := by omega
  have n2 : ¬ 9223372036854775807 < sg.size + 1 + y.size := by omega
  clear hE hA hb0 hW hx hlt hsg hop
  go_enter Tryd.func17, Tryd.ntmps17
  go_upto_region 2 with fail
  clear hW0 a0 a1 a2 a3 a4 a5 a6 a7 a8 p0 p1 p2 p3 p4 p5 p6 p7 p8
  go_wp2_with fail
  refine HK.out.mono ?_
  rintro en w0 ⟨rfl, hw⟩
  have hwb : Below W0.heap.size W0 w0 := by rw [hw]; exact (Below.refl _ _).alloc (Nat.le_refl _) _
  have hkb : Blk w0 W0.heap.size #[.int .i64 e] 3 := by rw [hw]; exact Blk.new _ _ _
  have HBW := Lib.hid (HB0.out.trans (hwb.mono HB0.out.size))
  have HIW := Lib.hid (HI0.out.keep hwb)
  have HKW := Lib.hid (HKA.out.keep hwb)
  obtain ⟨p0, p1, p2, p3, p4, p5, p6, p7, p8⟩ := HKW.out.nine
  rw [HO.out] at p0
  have HKB := Lib.hid hkb
  clear hw hwb hkb
  go_wp2_with fail
  refine (HS.out _).mono ?_
  rintro en w1 ⟨rfl, hb1⟩
  have HB1 := Lib.hid (HBW.out.trans (hb1.mono HBW.out.size))
  have HI1 := Lib.hid (HIW.out.keep hb1)
  have HK1 := Lib.hid (HKW.out.keep hb1)
  have HC1 := Lib.hid (HKB.out.keep hb1)
  obtain ⟨q0, q1, q2, q3, q4, q5, q6, q7, q8⟩ := HK1.out.nine
  rw [HO.out] at q0
  clear p0 p1 p2 p3 p4 p5 p6 p7 p8 hb1 q1 q2 q3 q4 q5 q6 q7 q8
  have c0 := HC1.out.cell (i := 0) rfl
  go_wp2_with fail
  refine (HSD.out _ HI1.out).mono ?_
  rintro en w2 ⟨rfl, hb2⟩
  have HB2 := Lib.hid (HB1.out.trans (hb2.mono HB1.out.size))
  clear hb2
  go_wp2
  go_ret
  exact ⟨rfl, HB2.out⟩

set_option maxRecDepth 100000 in
set_option maxHeartbeats 2000000 in
theorem rtext_one22 {O : List It} {v : Value} {e : Nat} {x : It} {f : Fm} (hx : O[e + 1]? = some x) (hl : O.length ≤ 1000) (hS : SideOK O v f e 4) (hsz : (textF f).size ≤ 100000) (hop : x.op = 22) : TextAt O v (signB x.op ++ sp8 ++ inF (tightN f.op) 4 (textF f)) (e + 1) := by
  obtain ⟨y, hy⟩ : ∃ s, inF (tightN f.op) 4 (textF f) = s := ⟨_, rfl⟩
  have hyl : y.size ≤ 100002 := by rw [← hy]; have := inF_size (tightN f.op) 4 (textF f); omega
  have HSD := Lib.hid hS
  unfold SideOK at HSD
  rw [hy] at HSD ⊢
  clear hy hS
  intro W hW
  obtain ⟨g, off, cap, hv, hgl, a0, a1, a2, a3, a4, a5, a6, a7, a8⟩ := hW.at hx
  subst hv
  have hlt := (List.getElem?_eq_some_iff.1 hx).1
  obtain ⟨W0, hW0⟩ : ∃ W0, W.alloc (.cells #[.int .i64 x.op, .string x.ln, .int .i64 x.lnum, .string x.rn, .int .i64 x.rnum, .string x.name, .string x.user, .int .i64 x.line, .int .i64 x.col] 36) = W0 := ⟨_, rfl⟩
  have hA : Blk W0 W.heap.size #[.int .i64 x.op, .string x.ln, .int .i64 x.lnum, .string x.rn, .int .i64 x.rnum, .string x.name, .string x.user, .int .i64 x.line, .int .i64 x.col] 36 := by rw [← hW0]; exact Blk.new W _ _
  have hb0 : Below W.heap.size W W0 := by rw [← hW0]; exact (Below.refl _ W).alloc (Nat.le_refl _) _
  have HB0 := Lib.hid hb0
  have HI0 := Lib.hid (hW.keep hb0)
  have HX := Lib.hid hx
  have HK := Lib.hid (kids_1 (hW.keep hb0) hx (by rw [hop]; rfl) hl)
  have HS := Lib.hid (fun (W : World) => rsign_any W x.op)
  obtain ⟨sg, hsg⟩ : ∃ s, signB x.op = s := ⟨_, rfl⟩
  have hsgl : sg.size ≤ 8 := by rw [← hsg]; exact signB_size x.op
  rw [hsg] at HS
  (try rw [hsg])
  have HKA := Lib.hid hA
  obtain ⟨p0, p1, p2, p3, p4, p5, p6, p7, p8⟩ := hA.nine
  obtain ⟨E, hE⟩ : ∃ E : Int, (((e + 1) : Nat) : Int) = E := ⟨_, rfl⟩
  have hez : E < (O.length : Int) := by clear HK; omega
  have he0 : (0 : Int) ≤ E := by clear HK; omega
  have ht1 : E.toNat = (e + 1) := by clear HK; omega
  rw [hE]
  rw [show ((e : Nat) : Int) + 1 = E by clear HK; omega] at HK
  have HO := Lib.hid hop
  rw [hop] at HS hW0 p0 a0
  have n1 : ¬ 9223372036854775807 < sg.size + 1 := by omega
  have n2 : ¬ 9223372036854775807 < sg.size + 1 + y.size := by omega
  clear hE hA hb0 hW hx hlt hsg hop
  go_enter Tryd.func17, Tryd.ntmps17
  go_upto_region 2 with fail
  clear hW0 a0 a1 a2 a3 a4 a5 a6 a7 a8 p0 p1 p2 p3 p4 p5 p6 p7 p8
  go_wp2_with fail
  refine HK.out.mono ?_
  rintro en w0 ⟨rfl, hw⟩
  have hwb : Below W0.heap.size W0 w0 := by rw [hw]; exact (Below.refl _ _).alloc (Nat.le_refl _) _
  have hkb : Blk w0 W0.heap.size #[.int .i64 e] 3 := by rw [hw]; exact Blk.new _ _ _
  have HBW := Lib.hid (HB0.out.trans (hwb.mono HB0.out.size))
  have HIW := Lib.hid (HI0.out.keep hwb)
  have HKW := Lib.hid (HKA.out.keep hwb)
  obtain ⟨p0, p1, p2, p3, p4, p5, p6, p7, p8⟩ := HKW.out.nine
  rw [HO.out] at p0
  have HKB := Lib.hid hkb
  clear hw hwb hkb
  go_wp2_with fail
  refine (HS.out _).mono ?_
  rintro en w1 ⟨rfl, hb1⟩
  have HB1 := Lib.hid (HBW.out.trans (hb1.mono HBW.out.size))
  have HI1 := Lib.hid (HIW.out.keep hb1)
  have HK1 := Lib.hid (HKW.out.keep hb1)
  have HC1 := Lib.hid (HKB.out.keep hb1)
  obtain ⟨q0, q1, q2, q3, q4, q5, q6, q7, q8⟩ := HK1.out.nine
  rw [HO.out] at q0
  clear p0 p1 p2 p3 p4 p5 p6 p7 p8 hb1 q1 q2 q3 q4 q5 q6 q7 q8
  have c0 := HC1.out.cell (i := 0) rfl
  go_wp2_with fail
  refine (HSD.out _ HI1.out).mono ?_
  rintro en w2 ⟨rfl, hb2⟩
  have HB2 := Lib.hid (HB1.out.trans (hb2.mono HB1.out.size))
  clear hb2
  go_wp2
  go_ret
  exact ⟨rfl, HB2.out⟩

set_option maxRecDepth 100000 in
set_option maxHeartbeats 2000000 in
theorem rtext_one23 {O : List It} {v : Value} {e : Nat} {x : It} {f : Fm} (hx : O[e + 1]? = some x) (hl : O.length ≤ 1000) (hS : SideOK O v f e 4) (hsz : (textF f).size ≤ 100000) (hop : x.op = 23) : TextAt O v (signB x.op ++ sp8 ++ inF (tightN f.op) 4 (textF f)) (e + 1) := by
  obtain ⟨y, hy⟩ : ∃ s, inF (tightN f.op) 4 (textF f) = s := ⟨_, rfl⟩
  have hyl : y.size ≤ 100002 := by rw [← hy]; have := inF_size (tightN f.op) 4 (textF f); omega
  have HSD := Lib.hid hS
  unfold SideOK at HSD
  rw [hy] at HSD ⊢
  clear hy hS
  intro W hW
  obtain ⟨g, off, cap, hv, hgl, a0, a1, a2, a3, a4, a5, a6, a7, a8⟩ := hW.at hx
  subst hv
  have hlt := (List.getElem?_eq_some_iff.1 hx).1
  obtain ⟨W0, hW0⟩ : ∃ W0, W.alloc (.cells #[.int .i64 x.op, .string x.ln, .int .i64 x.lnum, .string x.rn, .int .i64 x.rnum, .string x.name, .string x.user, .int .i64 x.line, .int .i64 x.col] 36) = W0 := ⟨_, rfl⟩
  have hA : Blk W0 W.heap.size #[.int .i64 x.op, .string x.ln, .int .i64 x.lnum, .string x.rn, .int .i64 x.rnum, .string x.name, .string x.user, .int .i64 x.line, .int .i64 x.col] 36 := by rw [← hW0]; exact Blk.new W _ _
  have hb0 : Below W.heap.size W W0 := by rw [← hW0]; exact (Below.refl _ W).alloc (Nat.le_refl _) _
  have HB0 := Lib.hid hb0
  have HI0 := Lib.hid (hW.keep hb0)
  have HX := Lib.hid hx
  have HK := Lib.hid (kids_1 (hW.keep hb0) hx (by rw [hop]; rfl) hl)
  have HS := Lib.hid (fun (W : World) => rsign_any W x.op)
  obtain ⟨sg, hsg⟩ : ∃ s, signB x.op = s := ⟨_, rfl⟩
  have hsgl : sg.size ≤ 8 := by rw [← hsg]; exact signB_size x.op
  rw [hsg] at HS
  (try rw [hsg])
  have HKA := Lib.hid hA
  obtain ⟨p0, p1, p2, p3, p4, p5, p6, p7, p8⟩ := hA.nine
  obtain ⟨E, hE⟩ : ∃ E : Int, (((e + 1) : Nat) : Int) = E := ⟨_, rfl⟩
  have hez : E < (O.length : Int) := by clear HK; omega
  have he0 : (0 : Int) ≤ E := by clear HK; omega
  have ht1 : E.toNat = (e + 1) := by clear HK; omega
  rw [hE]
  rw [show ((e : Nat) : Int) + 1 = E by clear HK; omega] at HK
  have HO := Lib.hid hop
  rw [hop] at HS hW0 p0 a0
  have n1 : ¬ 9223372036854775807 < sg.size + 1 := by omega
  have n2 : ¬ 9223372036854775807 < sg.size + 1 + y.size := by omega
  clear hE hA hb0 hW hx hlt hsg hop
  go_enter Tryd.func17, Tryd.ntmps17
  go_upto_region 2 with fail
  clear hW0 a0 a1 a2 a3 a4 a5 a6 a7 a8 p0 p1 p2 p3 p4 p5 p6 p7 p8
  go_wp2_with fail
  refine HK.out.mono ?_
  rintro en w0 ⟨rfl, hw⟩
  have hwb : Below W0.heap.size W0 w0 := by rw [hw]; exact (Below.refl _ _).alloc (Nat.le_refl _) _
  have hkb : Blk w0 W0.heap.size #[.int .i64 e] 3 := by rw [hw]; exact Blk.new _ _ _
  have HBW := Lib.hid (HB0.out.trans (hwb.mono HB0.out.size))
  have HIW := Lib.hid (HI0.out.keep hwb)
  have HKW := Lib.hid (HKA.out.keep hwb)
  obtain ⟨p0, p1, p2, p3, p4, p5, p6, p7, p8⟩ := HKW.out.nine
  rw [HO.out] at p0
  have HKB := Lib.hid hkb
  clear hw hwb hkb
  go_wp2_with fail
  refine (HS.out _).mono ?_
  rintro en w1 ⟨rfl, hb1⟩
  have HB1 := Lib.hid (HBW.out.trans (hb1.mono HBW.out.size))
  have HI1 := Lib.hid (HIW.out.keep hb1)
  have HK1 := Lib.hid (HKW.out.keep hb1)
  have HC1 := Lib.hid (HKB.out.keep hb1)
  obtain ⟨q0, q1, q2, q3, q4, q5, q6, q7, q8⟩ := HK1.out.nine
  rw [HO.out] at q0
  clear p0 p1 p2 p3 p4 p5 p6 p7 p8 hb1 q1 q2 q3 q4 q5 q6 q7 q8
  have c0 := HC1.out.cell (i := 0) rfl
  go_wp2_with fail
  refine (HSD.out _ HI1.out).mono ?_
  rintro en w2 ⟨rfl, hb2⟩
  have HB2 := Lib.hid (HB1.out.trans (hb2.mono HB1.out.size))
  clear hb2
  go_wp2
  go_ret
  exact ⟨rfl, HB2.out⟩

set_option maxRecDepth 100000 in
set_option maxHeartbeats 2000000 in
theorem rtext_one24 {O : List It} {v : Value} {e : Nat} {x : It} {f : Fm} (hx : O[e + 1]? = some x) (hl : O.length ≤ 1000) (hS : SideOK O v f e 4) (hsz : (textF f).size ≤ 100000) (hop : x.op = 24) : TextAt O v (signB x.op ++ sp8 ++ inF (tightN f.op) 4 (textF f)) (e + 1) := by
  obtain ⟨y, hy⟩ : ∃ s, inF (tightN f.op) 4 (textF f) = s := ⟨_, rfl⟩
  have hyl : y.size ≤ 100002 := by rw [← hy]; have := inF_size (tightN f.op) 4 (textF f); omega
  have HSD := Lib.hid hS
  unfold SideOK at HSD
  rw [hy] at HSD ⊢
  clear hy hS
  intro W hW
  obtain ⟨g, off, cap, hv, hgl, a0, a1, a2, a3, a4, a5, a6, a7, a8⟩ := hW.at hx
  subst hv
  have hlt := (List.getElem?_eq_some_iff.1 hx).1
  obtain ⟨W0, hW0⟩ : ∃ W0, W.alloc (.cells #[.int .i64 x.op, .string x.ln, .int .i64 x.lnum, .string x.rn, .int .i64 x.rnum, .string x.name, .string x.user, .int .i64 x.line, .int .i64 x.col] 36) = W0 := ⟨_, rfl⟩
  have hA : Blk W0 W.heap.size #[.int .i64 x.op, .string x.ln, .int .i64 x.lnum, .string x.rn, .int .i64 x.rnum, .string x.name, .string x.user, .int .i64 x.line, .int .i64 x.col] 36 := by rw [← hW0]; exact Blk.new W _ _
  have hb0 : Below W.heap.size W W0 := by rw [← hW0]; exact (Below.refl _ W).alloc (Nat.le_refl _) _
  have HB0 := Lib.hid hb0
  have HI0 := Lib.hid (hW.keep hb0)
  have HX := Lib.hid hx
  have HK := Lib.hid (kids_1 (hW.keep hb0) hx (by rw [hop]; rfl) hl)
  have HS := Lib.hid (fun (W : World) => rsign_any W x.op)
  obtain ⟨sg, hsg⟩ : ∃ s, signB x.op = s := ⟨_, rfl⟩
  have hsgl : sg.size ≤ 8 := by rw [← hsg]; exact signB_size x.op
  rw [hsg] at HS
  (try rw [hsg])
  have HKA := Lib.hid hA
  obtain ⟨p0, p1, p2, p3, p4, p5, p6, p7, p8⟩ := hA.nine
  obtain ⟨E, hE⟩ : ∃ E : Int, (((e + 1) : Nat) : Int) = E := ⟨_, rfl⟩
  have hez : E < (O.length : Int) := by clear HK; omega
  have he0 : (0 : Int) ≤ E := by clear HK; omega
  have ht1 : E.toNat = (e + 1) := by clear HK; omega
  rw [hE]
  rw [show ((e : Nat) : Int) + 1 = E by clear HK; omega] at HK
  have HO := Lib.hid hop
  rw [hop] at HS hW0 p0 a0
  have n1 : ¬ 9223372036854775807 < sg.size + 1 := by omega
  have n2 : ¬ 9223372036854775807 < sg.size + 1 + y.size := by omega
  clear hE hA hb0 hW hx hlt hsg hop
  go_enter Tryd.func17, Tryd.ntmps17
  go_upto_region 2 with fail
  clear hW0 a0 a1 a2 a3 a4 a5 a6 a7 a8 p0 p1 p2 p3 p4 p5 p6 p7 p8
  go_wp2_with fail
  refine HK.out.mono ?_
  rintro en w0 ⟨rfl, hw⟩
  have hwb : Below W0.heap.size W0 w0 := by rw [hw]; exact (Below.refl _ _).alloc (Nat.le_refl _) _
  have hkb : Blk w0 W0.heap.size #[.int .i64 e] 3 := by rw [hw]; exact Blk.new _ _ _
  have HBW := Lib.hid (HB0.out.trans (hwb.mono HB0.out.size))
  have HIW := Lib.hid (HI0.out.keep hwb)
  have HKW := Lib.hid (HKA.out.keep hwb)
  obtain ⟨p0, p1, p2, p3, p4, p5, p6, p7, p8⟩ := HKW.out.nine
  rw [HO.out] at p0
  have HKB := Lib.hid hkb
  clear hw hwb hkb
  go_wp2_with fail
  refine (HS.out _).mono ?_
  rintro en w1 ⟨rfl, hb1⟩
  have HB1 := Lib.hid (HBW.out.trans (hb1.mono HBW.out.size))
  have HI1 := Lib.hid (HIW.out.keep hb1)
  have HK1 := Lib.hid (HKW.out.keep hb1)
  have HC1 := Lib.hid (HKB.out.keep hb1)
  obtain ⟨q0, q1, q2, q3, q4, q5, q6, q7, q8⟩ := HK1.out.nine
  rw [HO.out] at q0
  clear p0 p1 p2 p3 p4 p5 p6 p7 p8 hb1 q1 q2 q3 q4 q5 q6 q7 q8
  have c0 := HC1.out.cell (i := 0) rfl
  go_wp2_with fail
  refine (HSD.out _ HI1.out).mono ?_
  rintro en w2 ⟨rfl, hb2⟩
  have HB2 := Lib.hid (HB1.out.trans (hb2.mono HB1.out.size))
  clear hb2
  go_wp2
  go_ret
  exact ⟨rfl, HB2.out⟩

theorem rtext_one {O : List It} {v : Value} {e : Nat} {x : It} {f : Fm} (hx : O[e + 1]? = some x) (hl : O.length ≤ 1000) (hS : SideOK O v f e 4) (hsz : (textF f).size ≤ 100000) (hop : arN x.op = 1) : TextAt O v (signB x.op ++ sp8 ++ inF (tightN f.op) 4 (textF f)) (e + 1) := by
  have h : x.op = 15 ∨ x.op = 19 ∨ x.op = 20 ∨ x.op = 21 ∨ x.op = 22 ∨ x.op = 23 ∨ x.op = 24 := by
    unfold arN at hop
    split at hop
    · omega
    split at hop
    · omega
    split at hop
    · omega
    · omega
  rcases h with h | h | h | h | h | h | h
  · exact rtext_one15 hx hl hS hsz h
  · exact rtext_one19 hx hl hS hsz h
  · exact rtext_one20 hx hl hS hsz h
  · exact rtext_one21 hx hl hS hsz h
  · exact rtext_one22 hx hl hS hsz h
  · exact rtext_one23 hx hl hS hsz h
  · exact rtext_one24 hx hl hS hsz h

end Go.Proofs.YthhjepgcbfmfeaaDoor
