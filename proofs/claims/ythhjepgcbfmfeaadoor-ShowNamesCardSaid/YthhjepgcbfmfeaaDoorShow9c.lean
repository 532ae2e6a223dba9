/- Contracts of warderref06's text at a formula of two. -/
import Derived.Test.YthhjepgcbfmfeaaDoorShow9b
namespace Go.Proofs.YthhjepgcbfmfeaaDoor
open Go.RowKit

theorem impT (y z : ByteArray) : y ++ sp8 ++ signB 18 ++ sp8 ++ z = y ++ (⟨#[32, 105, 109, 112, 108, 105, 101, 115, 32]⟩ : ByteArray) ++ z := by
  have h : sp8 ++ signB 18 ++ sp8 = (⟨#[32, 105, 109, 112, 108, 105, 101, 115, 32]⟩ : ByteArray) := by decide +kernel
  rw [← h]
  simp only [ByteArray.append_assoc]

set_option maxRecDepth 100000 in
set_option maxHeartbeats 2000000 in
theorem rtext_two16 {O : List It} {v : Value} {e k : Nat} {x : It} {f g : Fm} (hx : O[e + 1]? = some x) (hl : O.length ≤ 1000) (hk : begB O (e + 1) 1 = (k : Int) + 1) (hF : SideOK O v f k 3) (hG : SideOK O v g e 4) (hfz : (textF f).size ≤ 100000) (hgz : (textF g).size ≤ 100000) (hop : x.op = 16) : TextAt O v (twoTx x.op (tightN f.op) (textF f) (tightN g.op) (textF g)) (e + 1) := by
  rw [hop, twoTx_16]
  have HSF := Lib.hid hF
  have HSG := Lib.hid hG
  unfold SideOK at HSF
  unfold SideOK at HSG
  obtain ⟨y, hy⟩ : ∃ s, inF (tightN f.op) 3 (textF f) = s := ⟨_, rfl⟩
  have hyl : y.size ≤ 100002 := by rw [← hy]; have := inF_size (tightN f.op) 3 (textF f); omega
  obtain ⟨z, hz⟩ : ∃ s, inF (tightN g.op) 4 (textF g) = s := ⟨_, rfl⟩
  have hzl : z.size ≤ 100002 := by rw [← hz]; have := inF_size (tightN g.op) 4 (textF g); omega
  rw [hy] at HSF ⊢
  rw [hz] at HSG ⊢
  clear hy hz hF hG hfz hgz
  intro W hW
  obtain ⟨g, off, cap, hv, hgl, a0, a1, a2, a3, a4, a5, a6, a7, a8⟩ := hW.at hx
  subst hv
  have hlt := (List.getElem?_eq_some_iff.1 hx).1
  obtain ⟨W0, hW0⟩ : ∃ W0, W.alloc (.cells #[.int .i64 x.op, .string x.ln, .int .i64 x.lnum, .string x.rn, .int .i64 x.rnum, .string x.name, .string x.user, .int .i64 x.line, .int .i64 x.col] 36) = W0 := ⟨_, rfl⟩
  have hA : Blk W0 W.heap.size #[.int .i64 x.op, .string x.ln, .int .i64 x.lnum, .string x.rn, .int .i64 x.rnum, .string x.name, .string x.user, .int .i64 x.line, .int .i64 x.col] 36 := by rw [← hW0]; exact Blk.new W _ _
  have hb0 : Below W.heap.size W W0 := by rw [← hW0]; exact (Below.refl _ W).alloc (Nat.le_refl _) _
  have HB0 := Lib.hid hb0
  have HI0 := Lib.hid (hW.keep hb0)
  have HX := Lib.hid hx
  have HK := Lib.hid (kids_2 (hW.keep hb0) hx (by rw [hop]; rfl) hl hk)
  have HS := Lib.hid (fun (W : World) => rsign_any W x.op)
  obtain ⟨sg, hsg⟩ : ∃ s, signB x.op = s := ⟨_, rfl⟩
  have hsgl : sg.size ≤ 8 := by rw [← hsg]; exact signB_size x.op
  rw [hsg] at HS
  have HKA := Lib.hid hA
  obtain ⟨p0, p1, p2, p3, p4, p5, p6, p7, p8⟩ := hA.nine
  obtain ⟨E, hE⟩ : ∃ E : Int, (((e + 1) : Nat) : Int) = E := ⟨_, rfl⟩
  have hez : E < (O.length : Int) := by clear HK; omega
  have he0 : (0 : Int) ≤ E := by clear HK; omega
  have ht1 : E.toNat = (e + 1) := by clear HK; omega
  rw [hE]
  rw [show ((e : Nat) : Int) + 1 = E by clear HK; omega] at HK
  have HO := Lib.hid hop
  rw [hop] at HS hW0 p0 a0
  rw [hop] at hsg
  rw [hsg]
  have n1 : ¬ 9223372036854775807 < y.size + 1 := by omega
  have n2 : ¬ 9223372036854775807 < y.size + 1 + sg.size := by omega
  have n3 : ¬ 9223372036854775807 < y.size + 1 + sg.size + 1 := by omega
  have n4 : ¬ 9223372036854775807 < y.size + 1 + sg.size + 1 + z.size := by omega
  clear hE hA hb0 hW hx hlt hsg hop hk
  go_enter Tryd.func17, Tryd.ntmps17
  go_upto_region 2 with fail
  clear hW0 a0 a1 a2 a3 a4 a5 a6 a7 a8 p0 p1 p2 p3 p4 p5 p6 p7 p8
  go_wp2_with fail
  refine HK.out.mono ?_
  rintro en w0 ⟨rfl, hw⟩
  have hwb : Below W0.heap.size W0 w0 := by rw [hw]; exact (Below.refl _ _).alloc (Nat.le_refl _) _
  have hkb : Blk w0 W0.heap.size #[.int .i64 k, .int .i64 e] 3 := by rw [hw]; exact Blk.new _ _ _
  have HBW := Lib.hid (HB0.out.trans (hwb.mono HB0.out.size))
  have HIW := Lib.hid (HI0.out.keep hwb)
  have HKW := Lib.hid (HKA.out.keep hwb)
  obtain ⟨p0, p1, p2, p3, p4, p5, p6, p7, p8⟩ := HKW.out.nine
  rw [HO.out] at p0
  have HKB := Lib.hid hkb
  clear hw hwb hkb
  go_wp2_with fail
  refine (HS.out _).mono ?_
  rintro en w1 ⟨rfl, hb1⟩
  have HB1 := Lib.hid (HBW.out.trans (hb1.mono HBW.out.size))
  have HI1 := Lib.hid (HIW.out.keep hb1)
  have HK1 := Lib.hid (HKW.out.keep hb1)
  have HC1 := Lib.hid (HKB.out.keep hb1)
  obtain ⟨q0, q1, q2, q3, q4, q5, q6, q7, q8⟩ := HK1.out.nine
  rw [HO.out] at q0
  clear p0 p1 p2 p3 p4 p5 p6 p7 p8 hb1 q1 q2 q3 q4 q5 q6 q7 q8
  obtain ⟨c0, c1⟩ := HC1.out.two
  obtain ⟨d0, d1⟩ := HC1.out.drew.two
  obtain ⟨d2, _⟩ := HK1.out.drew.nine
  rw [HO.out] at d2
  have HID := Lib.hid (show ItIn w1.drew _ _ from HI1.out)
  have hw4 : IntKind.i64.wrap 4 = 4 := IntWalk.i64_in _ ⟨by decide, by decide⟩
  have HTT : Hid (∀ W : World, Calls Tryd.prog 31 #[.int .i64 16] W fun e w' => e = .returned (.int .i64 3) ∧ w' = W) := fun W => rtight_any W 16
  go_wp2
  go_region_held3 (fun w' => w'.cell? ⟨W0.heap.size, 0, none⟩ = some (.int .i64 k) ∧ w'.cell? ⟨W0.heap.size, 1, none⟩ = some (.int .i64 e) ∧ w'.cell? ⟨W.heap.size, 0, none⟩ = some (.int .i64 16))
    (first | (with_reducible exact ⟨d0, d1, d2⟩) | (with_reducible exact ⟨s0, s1, s2⟩) | (with_reducible exact ⟨t0, t1, t2⟩) | (trace_state; fail))
    (first
      | (go_simp; go_at_call 31; (with_reducible refine (HTT.out _).mono ?_)
         rintro en w9 ⟨rfl, hw9⟩
         rw [hw9]; clear hw9 w9)
      | (go_simp; go_at_call 30; (with_reducible refine (HSF.out _ HID.out).mono ?_)
         rintro en w2 ⟨rfl, hb2⟩
         have HB2 := Lib.hid (HB1.out.drew.trans (hb2.mono HB1.out.drew.size))
         have HI2 := Lib.hid (HID.out.keep hb2)
         have HK2 := Lib.hid (HK1.out.drew.keep hb2)
         have HC2 := Lib.hid (HC1.out.drew.keep hb2)
         obtain ⟨s0, s1⟩ := HC2.out.two
         obtain ⟨s2, _⟩ := HK2.out.nine
         rw [HO.out] at s2
         clear hb2)
      | (go_simp; go_at_call 30; (with_reducible refine (HSG.out _ HI2.out).mono ?_)
         rintro en w3 ⟨rfl, hb3⟩
         have HB3 := Lib.hid (HB2.out.trans (hb3.mono HB2.out.size))
         obtain ⟨t0, t1⟩ := (HC2.out.keep hb3).two
         obtain ⟨t2, _⟩ := (HK2.out.keep hb3).nine
         rw [HO.out] at t2
         clear hb3))
  all_goals
    go_wp2
    go_ret
    exact ⟨rfl, HB3.out⟩

set_option maxRecDepth 100000 in
set_option maxHeartbeats 2000000 in
theorem rtext_two17 {O : List It} {v : Value} {e k : Nat} {x : It} {f g : Fm} (hx : O[e + 1]? = some x) (hl : O.length ≤ 1000) (hk : begB O (e + 1) 1 = (k : Int) + 1) (hF : SideOK O v f k 2) (hG : SideOK O v g e 3) (hfz : (textF f).size ≤ 100000) (hgz : (textF g).size ≤ 100000) (hop : x.op = 17) : TextAt O v (twoTx x.op (tightN f.op) (textF f) (tightN g.op) (textF g)) (e + 1) := by
  rw [hop, twoTx_17]
  have HSF := Lib.hid hF
  have HSG := Lib.hid hG
  unfold SideOK at HSF
  unfold SideOK at HSG
  obtain ⟨y, hy⟩ : ∃ s, inF (tightN f.op) 2 (textF f) = s := ⟨_, rfl⟩
  have hyl : y.size ≤ 100002 := by rw [← hy]; have := inF_size (tightN f.op) 2 (textF f); omega
  obtain ⟨z, hz⟩ : ∃ s, inF (tightN g.op) 3 (textF g) = s := ⟨_, rfl⟩
  have hzl : z.size ≤ 100002 := by rw [← hz]; have := inF_size (tightN g.op) 3 (textF g); omega
  rw [hy] at HSF ⊢
  rw [hz] at HSG ⊢
  clear hy hz hF hG hfz hgz
  intro W hW
  obtain ⟨g, off, cap, hv, hgl, a0, a1, a2, a3, a4, a5, a6, a7, a8⟩ := hW.at hx
  subst hv
  have hlt := (List.getElem?_eq_some_iff.1 hx).1
  obtain ⟨W0, hW0⟩ : ∃ W0, W.alloc (.cells #[.int .i64 x.op, .string x.ln, .int .i64 x.lnum, .string x.rn, .int .i64 x.rnum, .string x.name, .string x.user, .int .i64 x.line, .int .i64 x.col] 36) = W0 := ⟨_, rfl⟩
  have hA : Blk W0 W.heap.size #[.int .i64 x.op, .string x.ln, .int .i64 x.lnum, .string x.rn, .int .i64 x.rnum, .string x.name, .string x.user, .int .i64 x.line, .int .i64 x.col] 36 := by rw [← hW0]; exact Blk.new W _ _
  have hb0 : Below W.heap.size W W0 := by rw [← hW0]; exact (Below.refl _ W).alloc (Nat.le_refl _) _
  have HB0 := Lib.hid hb0
  have HI0 := Lib.hid (hW.keep hb0)
  have HX := Lib.hid hx
  have HK := Lib.hid (kids_2 (hW.keep hb0) hx (by rw [hop]; rfl) hl hk)
  have HS := Lib.hid (fun (W : World) => rsign_any W x.op)
  obtain ⟨sg, hsg⟩ : ∃ s, signB x.op = s := ⟨_, rfl⟩
  have hsgl : sg.size ≤ 8 := by rw [← hsg]; exact signB_size x.op
  rw [hsg] at HS
  have HKA := Lib.hid hA
  obtain ⟨p0, p1, p2, p3, p4, p5, p6, p7, p8⟩ := hA.nine
  obtain ⟨E, hE⟩ : ∃ E : Int, (((e + 1) : Nat) : Int) = E := ⟨_, rfl⟩
  have hez : E < (O.length : Int) := by clear HK; omega
  have he0 : (0 : Int) ≤ E := by clear HK; omega
  have ht1 : E.toNat = (e + 1) := by clear HK; omega
  rw [hE]
  rw [show ((e : Nat) : Int) + 1 = E by clear HK; omega] at HK
  have HO := Lib.hid hop
  rw [hop] at HS hW0 p0 a0
  rw [hop] at hsg
  rw [hsg]
  have n1 : ¬ 9223372036854775807 < y.size + 1 := by omega
  have n2 : ¬ 9223372036854775807 < y.size + 1 + sg.size := by omega
  have n3 : ¬ 9223372036854775807 < y.size + 1 + sg.size + 1 := by omega
  have n4 : ¬ 9223372036854775807 < y.size + 1 + sg.size + 1 + z.size := by omega
  clear hE hA hb0 hW hx hlt hsg hop hk
  go_enter Tryd.func17, Tryd.ntmps17
  go_upto_region 2 with fail
  clear hW0 a0 a1 a2 a3 a4 a5 a6 a7 a8 p0 p1 p2 p3 p4 p5 p6 p7 p8
  go_wp2_with fail
  refine HK.out.mono ?_
  rintro en w0 ⟨rfl, hw⟩
  have hwb : Below W0.heap.size W0 w0 := by rw [hw]; exact (Below.refl _ _).alloc (Nat.le_refl _) _
  have hkb : Blk w0 W0.heap.size #[.int .i64 k, .int .i64 e] 3 := by rw [hw]; exact Blk.new _ _ _
  have HBW := Lib.hid (HB0.out.trans (hwb.mono HB0.out.size))
  have HIW := Lib.hid (HI0.out.keep hwb)
  have HKW := Lib.hid (HKA.out.keep hwb)
  obtain ⟨p0, p1, p2, p3, p4, p5, p6, p7, p8⟩ := HKW.out.nine
  rw [HO.out] at p0
  have HKB := Lib.hid hkb
  clear hw hwb hkb
  go_wp2_with fail
  refine (HS.out _).mono ?_
  rintro en w1 ⟨rfl, hb1⟩
  have HB1 := Lib.hid (HBW.out.trans (hb1.mono HBW.out.size))
  have HI1 := Lib.hid (HIW.out.keep hb1)
  have HK1 := Lib.hid (HKW.out.keep hb1)
  have HC1 := Lib.hid (HKB.out.keep hb1)
  obtain ⟨q0, q1, q2, q3, q4, q5, q6, q7, q8⟩ := HK1.out.nine
  rw [HO.out] at q0
  clear p0 p1 p2 p3 p4 p5 p6 p7 p8 hb1 q1 q2 q3 q4 q5 q6 q7 q8
  obtain ⟨c0, c1⟩ := HC1.out.two
  obtain ⟨d0, d1⟩ := HC1.out.drew.two
  obtain ⟨d2, _⟩ := HK1.out.drew.nine
  rw [HO.out] at d2
  have HID := Lib.hid (show ItIn w1.drew _ _ from HI1.out)
  have hw4 : IntKind.i64.wrap 3 = 3 := IntWalk.i64_in _ ⟨by decide, by decide⟩
  have HTT : Hid (∀ W : World, Calls Tryd.prog 31 #[.int .i64 17] W fun e w' => e = .returned (.int .i64 2) ∧ w' = W) := fun W => rtight_any W 17
  go_wp2
  go_region_held3 (fun w' => w'.cell? ⟨W0.heap.size, 0, none⟩ = some (.int .i64 k) ∧ w'.cell? ⟨W0.heap.size, 1, none⟩ = some (.int .i64 e) ∧ w'.cell? ⟨W.heap.size, 0, none⟩ = some (.int .i64 17))
    (first | (with_reducible exact ⟨d0, d1, d2⟩) | (with_reducible exact ⟨s0, s1, s2⟩) | (with_reducible exact ⟨t0, t1, t2⟩) | (trace_state; fail))
    (first
      | (go_simp; go_at_call 31; (with_reducible refine (HTT.out _).mono ?_)
         rintro en w9 ⟨rfl, hw9⟩
         rw [hw9]; clear hw9 w9)
      | (go_simp; go_at_call 30; (with_reducible refine (HSF.out _ HID.out).mono ?_)
         rintro en w2 ⟨rfl, hb2⟩
         have HB2 := Lib.hid (HB1.out.drew.trans (hb2.mono HB1.out.drew.size))
         have HI2 := Lib.hid (HID.out.keep hb2)
         have HK2 := Lib.hid (HK1.out.drew.keep hb2)
         have HC2 := Lib.hid (HC1.out.drew.keep hb2)
         obtain ⟨s0, s1⟩ := HC2.out.two
         obtain ⟨s2, _⟩ := HK2.out.nine
         rw [HO.out] at s2
         clear hb2)
      | (go_simp; go_at_call 30; (with_reducible refine (HSG.out _ HI2.out).mono ?_)
         rintro en w3 ⟨rfl, hb3⟩
         have HB3 := Lib.hid (HB2.out.trans (hb3.mono HB2.out.size))
         obtain ⟨t0, t1⟩ := (HC2.out.keep hb3).two
         obtain ⟨t2, _⟩ := (HK2.out.keep hb3).nine
         rw [HO.out] at t2
         clear hb3))
  all_goals
    go_wp2
    go_ret
    exact ⟨rfl, HB3.out⟩

set_option maxRecDepth 100000 in
set_option maxHeartbeats 2000000 in
theorem rtext_two18 {O : List It} {v : Value} {e k : Nat} {x : It} {f g : Fm} (hx : O[e + 1]? = some x) (hl : O.length ≤ 1000) (hk : begB O (e + 1) 1 = (k : Int) + 1) (hF : SideOK O v f k 2) (hG : TextAt O v (textF g) e) (hfz : (textF f).size ≤ 100000) (hgz : (textF g).size ≤ 100000) (hop : x.op = 18) : TextAt O v (twoTx x.op (tightN f.op) (textF f) (tightN g.op) (textF g)) (e + 1) := by
  rw [hop, twoTx_18]
  rw [inF_1, impT]
  have HSF := Lib.hid hF
  have HSG := Lib.hid hG
  unfold SideOK at HSF
  unfold TextAt at HSG
  obtain ⟨y, hy⟩ : ∃ s, inF (tightN f.op) 2 (textF f) = s := ⟨_, rfl⟩
  have hyl : y.size ≤ 100002 := by rw [← hy]; have := inF_size (tightN f.op) 2 (textF f); omega
  obtain ⟨z, hz⟩ : ∃ s, textF g = s := ⟨_, rfl⟩
  have hzl : z.size ≤ 100002 := by rw [← hz]; exact Nat.le_trans hgz (by decide)
  rw [hy] at HSF ⊢
  rw [hz] at HSG ⊢
  clear hy hz hF hG hfz hgz
  intro W hW
  obtain ⟨g, off, cap, hv, hgl, a0, a1, a2, a3, a4, a5, a6, a7, a8⟩ := hW.at hx
  subst hv
  have hlt := (List.getElem?_eq_some_iff.1 hx).1
  obtain ⟨W0, hW0⟩ : ∃ W0, W.alloc (.cells #[.int .i64 x.op, .string x.ln, .int .i64 x.lnum, .string x.rn, .int .i64 x.rnum, .string x.name, .string x.user, .int .i64 x.line, .int .i64 x.col] 36) = W0 := ⟨_, rfl⟩
  have hA : Blk W0 W.heap.size #[.int .i64 x.op, .string x.ln, .int .i64 x.lnum, .string x.rn, .int .i64 x.rnum, .string x.name, .string x.user, .int .i64 x.line, .int .i64 x.col] 36 := by rw [← hW0]; exact Blk.new W _ _
  have hb0 : Below W.heap.size W W0 := by rw [← hW0]; exact (Below.refl _ W).alloc (Nat.le_refl _) _
  have HB0 := Lib.hid hb0
  have HI0 := Lib.hid (hW.keep hb0)
  have HX := Lib.hid hx
  have HK := Lib.hid (kids_2 (hW.keep hb0) hx (by rw [hop]; rfl) hl hk)
  have HS := Lib.hid (fun (W : World) => rsign_any W x.op)
  obtain ⟨sg, hsg⟩ : ∃ s, signB x.op = s := ⟨_, rfl⟩
  have hsgl : sg.size ≤ 8 := by rw [← hsg]; exact signB_size x.op
  rw [hsg] at HS
  have HKA := Lib.hid hA
  obtain ⟨p0, p1, p2, p3, p4, p5, p6, p7, p8⟩ := hA.nine
  obtain ⟨E, hE⟩ : ∃ E : Int, (((e + 1) : Nat) : Int) = E := ⟨_, rfl⟩
  have hez : E < (O.length : Int) := by clear HK; omega
  have he0 : (0 : Int) ≤ E := by clear HK; omega
  have ht1 : E.toNat = (e + 1) := by clear HK; omega
  rw [hE]
  rw [show ((e : Nat) : Int) + 1 = E by clear HK; omega] at HK
  have HO := Lib.hid hop
  rw [hop] at HS hW0 p0 a0
  have n1 : ¬ 9223372036854775807 < y.size + 9 := by omega
  have n2 : ¬ 9223372036854775807 < y.size + 9 + z.size := by omega
  clear hE hA hb0 hW hx hlt hsg hop hk
  go_enter Tryd.func17, Tryd.ntmps17
  go_upto_region 2 with fail
  clear hW0 a0 a1 a2 a3 a4 a5 a6 a7 a8 p0 p1 p2 p3 p4 p5 p6 p7 p8
  go_wp2_with fail
  refine HK.out.mono ?_
  rintro en w0 ⟨rfl, hw⟩
  have hwb : Below W0.heap.size W0 w0 := by rw [hw]; exact (Below.refl _ _).alloc (Nat.le_refl _) _
  have hkb : Blk w0 W0.heap.size #[.int .i64 k, .int .i64 e] 3 := by rw [hw]; exact Blk.new _ _ _
  have HBW := Lib.hid (HB0.out.trans (hwb.mono HB0.out.size))
  have HIW := Lib.hid (HI0.out.keep hwb)
  have HKW := Lib.hid (HKA.out.keep hwb)
  obtain ⟨p0, p1, p2, p3, p4, p5, p6, p7, p8⟩ := HKW.out.nine
  rw [HO.out] at p0
  have HKB := Lib.hid hkb
  clear hw hwb hkb
  go_wp2_with fail
  refine (HS.out _).mono ?_
  rintro en w1 ⟨rfl, hb1⟩
  have HB1 := Lib.hid (HBW.out.trans (hb1.mono HBW.out.size))
  have HI1 := Lib.hid (HIW.out.keep hb1)
  have HK1 := Lib.hid (HKW.out.keep hb1)
  have HC1 := Lib.hid (HKB.out.keep hb1)
  obtain ⟨q0, q1, q2, q3, q4, q5, q6, q7, q8⟩ := HK1.out.nine
  rw [HO.out] at q0
  clear p0 p1 p2 p3 p4 p5 p6 p7 p8 hb1 q1 q2 q3 q4 q5 q6 q7 q8
  obtain ⟨c0, c1⟩ := HC1.out.two
  obtain ⟨d0, d1⟩ := HC1.out.drew.two
  obtain ⟨d2, _⟩ := HK1.out.drew.nine
  rw [HO.out] at d2
  have HID := Lib.hid (show ItIn w1.drew _ _ from HI1.out)
  go_wp2
  go_region_held3 (fun w' => w'.cell? ⟨W0.heap.size, 0, none⟩ = some (.int .i64 k) ∧ w'.cell? ⟨W0.heap.size, 1, none⟩ = some (.int .i64 e) ∧ w'.cell? ⟨W.heap.size, 0, none⟩ = some (.int .i64 18))
    (first | (with_reducible exact ⟨d0, d1, d2⟩) | (with_reducible exact ⟨s0, s1, s2⟩) | (with_reducible exact ⟨t0, t1, t2⟩) | (trace_state; fail))
    (first
      | (go_simp; go_at_call 30; (with_reducible refine (HSF.out _ HID.out).mono ?_)
         rintro en w2 ⟨rfl, hb2⟩
         have HB2 := Lib.hid (HB1.out.drew.trans (hb2.mono HB1.out.drew.size))
         have HI2 := Lib.hid (HID.out.keep hb2)
         have HK2 := Lib.hid (HK1.out.drew.keep hb2)
         have HC2 := Lib.hid (HC1.out.drew.keep hb2)
         obtain ⟨s0, s1⟩ := HC2.out.two
         obtain ⟨s2, _⟩ := HK2.out.nine
         rw [HO.out] at s2
         clear hb2)
      | (go_simp; go_at_call 17; (with_reducible refine (HSG.out _ HI2.out).mono ?_)
         rintro en w3 ⟨rfl, hb3⟩
         have HB3 := Lib.hid (HB2.out.trans (hb3.mono HB2.out.size))
         obtain ⟨t0, t1⟩ := (HC2.out.keep hb3).two
         obtain ⟨t2, _⟩ := (HK2.out.keep hb3).nine
         rw [HO.out] at t2
         clear hb3))
  all_goals
    go_wp2
    go_ret
    exact ⟨rfl, HB3.out⟩

set_option maxRecDepth 100000 in
set_option maxHeartbeats 2000000 in
theorem rtext_two25 {O : List It} {v : Value} {e k : Nat} {x : It} {f g : Fm} (hx : O[e + 1]? = some x) (hl : O.length ≤ 1000) (hk : begB O (e + 1) 1 = (k : Int) + 1) (hF : TextAt O v (textF f) k) (hG : TextAt O v (textF g) e) (hfz : (textF f).size ≤ 100000) (hgz : (textF g).size ≤ 100000) (hop : x.op = 25) : TextAt O v (twoTx x.op (tightN f.op) (textF f) (tightN g.op) (textF g)) (e + 1) := by
  rw [hop, twoTx_25]
  have HSF := Lib.hid hF
  have HSG := Lib.hid hG
  unfold TextAt at HSF
  unfold TextAt at HSG
  obtain ⟨y, hy⟩ : ∃ s, textF f = s := ⟨_, rfl⟩
  have hyl : y.size ≤ 100002 := by rw [← hy]; exact Nat.le_trans hfz (by decide)
  obtain ⟨z, hz⟩ : ∃ s, textF g = s := ⟨_, rfl⟩
  have hzl : z.size ≤ 100002 := by rw [← hz]; exact Nat.le_trans hgz (by decide)
  rw [hy] at HSF ⊢
  rw [hz] at HSG ⊢
  clear hy hz hF hG hfz hgz
  intro W hW
  obtain ⟨g, off, cap, hv, hgl, a0, a1, a2, a3, a4, a5, a6, a7, a8⟩ := hW.at hx
  subst hv
  have hlt := (List.getElem?_eq_some_iff.1 hx).1
  obtain ⟨W0, hW0⟩ : ∃ W0, W.alloc (.cells #[.int .i64 x.op, .string x.ln, .int .i64 x.lnum, .string x.rn, .int .i64 x.rnum, .string x.name, .string x.user, .int .i64 x.line, .int .i64 x.col] 36) = W0 := ⟨_, rfl⟩
  have hA : Blk W0 W.heap.size #[.int .i64 x.op, .string x.ln, .int .i64 x.lnum, .string x.rn, .int .i64 x.rnum, .string x.name, .string x.user, .int .i64 x.line, .int .i64 x.col] 36 := by rw [← hW0]; exact Blk.new W _ _
  have hb0 : Below W.heap.size W W0 := by rw [← hW0]; exact (Below.refl _ W).alloc (Nat.le_refl _) _
  have HB0 := Lib.hid hb0
  have HI0 := Lib.hid (hW.keep hb0)
  have HX := Lib.hid hx
  have HK := Lib.hid (kids_2 (hW.keep hb0) hx (by rw [hop]; rfl) hl hk)
  have HS := Lib.hid (fun (W : World) => rsign_any W x.op)
  obtain ⟨sg, hsg⟩ : ∃ s, signB x.op = s := ⟨_, rfl⟩
  have hsgl : sg.size ≤ 8 := by rw [← hsg]; exact signB_size x.op
  rw [hsg] at HS
  have HKA := Lib.hid hA
  obtain ⟨p0, p1, p2, p3, p4, p5, p6, p7, p8⟩ := hA.nine
  obtain ⟨E, hE⟩ : ∃ E : Int, (((e + 1) : Nat) : Int) = E := ⟨_, rfl⟩
  have hez : E < (O.length : Int) := by clear HK; omega
  have he0 : (0 : Int) ≤ E := by clear HK; omega
  have ht1 : E.toNat = (e + 1) := by clear HK; omega
  rw [hE]
  rw [show ((e : Nat) : Int) + 1 = E by clear HK; omega] at HK
  have HO := Lib.hid hop
  rw [hop] at HS hW0 p0 a0
  rw [hop] at hsg
  rw [hsg]
  have n1 : ¬ 9223372036854775807 < sg.size + 2 := by omega
  have n2 : ¬ 9223372036854775807 < sg.size + 2 + y.size := by omega
  have n3 : ¬ 9223372036854775807 < sg.size + 2 + y.size + 3 := by omega
  have n4 : ¬ 9223372036854775807 < sg.size + 2 + y.size + 3 + z.size := by omega
  have n5 : ¬ 9223372036854775807 < sg.size + 2 + y.size + 3 + z.size + 1 := by omega
  clear hE hA hb0 hW hx hlt hsg hop hk
  go_enter Tryd.func17, Tryd.ntmps17
  go_upto_region 2 with fail
  clear hW0 a0 a1 a2 a3 a4 a5 a6 a7 a8 p0 p1 p2 p3 p4 p5 p6 p7 p8
  go_wp2_with fail
  refine HK.out.mono ?_
  rintro en w0 ⟨rfl, hw⟩
  have hwb : Below W0.heap.size W0 w0 := by rw [hw]; exact (Below.refl _ _).alloc (Nat.le_refl _) _
  have hkb : Blk w0 W0.heap.size #[.int .i64 k, .int .i64 e] 3 := by rw [hw]; exact Blk.new _ _ _
  have HBW := Lib.hid (HB0.out.trans (hwb.mono HB0.out.size))
  have HIW := Lib.hid (HI0.out.keep hwb)
  have HKW := Lib.hid (HKA.out.keep hwb)
  obtain ⟨p0, p1, p2, p3, p4, p5, p6, p7, p8⟩ := HKW.out.nine
  rw [HO.out] at p0
  have HKB := Lib.hid hkb
  clear hw hwb hkb
  go_wp2_with fail
  refine (HS.out _).mono ?_
  rintro en w1 ⟨rfl, hb1⟩
  have HB1 := Lib.hid (HBW.out.trans (hb1.mono HBW.out.size))
  have HI1 := Lib.hid (HIW.out.keep hb1)
  have HK1 := Lib.hid (HKW.out.keep hb1)
  have HC1 := Lib.hid (HKB.out.keep hb1)
  obtain ⟨q0, q1, q2, q3, q4, q5, q6, q7, q8⟩ := HK1.out.nine
  rw [HO.out] at q0
  clear p0 p1 p2 p3 p4 p5 p6 p7 p8 hb1 q1 q2 q3 q4 q5 q6 q7 q8
  obtain ⟨c0, c1⟩ := HC1.out.two
  obtain ⟨d0, d1⟩ := HC1.out.drew.two
  obtain ⟨d2, _⟩ := HK1.out.drew.nine
  rw [HO.out] at d2
  have HID := Lib.hid (show ItIn w1.drew _ _ from HI1.out)
  go_wp2
  go_region_held3 (fun w' => w'.cell? ⟨W0.heap.size, 0, none⟩ = some (.int .i64 k) ∧ w'.cell? ⟨W0.heap.size, 1, none⟩ = some (.int .i64 e) ∧ w'.cell? ⟨W.heap.size, 0, none⟩ = some (.int .i64 25))
    (first | (with_reducible exact ⟨d0, d1, d2⟩) | (with_reducible exact ⟨s0, s1, s2⟩) | (with_reducible exact ⟨t0, t1, t2⟩) | (trace_state; fail))
    (first
      | (go_simp; go_at_call 17; (with_reducible refine (HSF.out _ HID.out).mono ?_)
         rintro en w2 ⟨rfl, hb2⟩
         have HB2 := Lib.hid (HB1.out.drew.trans (hb2.mono HB1.out.drew.size))
         have HI2 := Lib.hid (HID.out.keep hb2)
         have HK2 := Lib.hid (HK1.out.drew.keep hb2)
         have HC2 := Lib.hid (HC1.out.drew.keep hb2)
         obtain ⟨s0, s1⟩ := HC2.out.two
         obtain ⟨s2, _⟩ := HK2.out.nine
         rw [HO.out] at s2
         clear hb2)
      | (go_simp; go_at_call 17; (with_reducible refine (HSG.out _ HI2.out).mono ?_)
         rintro en w3 ⟨rfl, hb3⟩
         have HB3 := Lib.hid (HB2.out.trans (hb3.mono HB2.out.size))
         obtain ⟨t0, t1⟩ := (HC2.out.keep hb3).two
         obtain ⟨t2, _⟩ := (HK2.out.keep hb3).nine
         rw [HO.out] at t2
         clear hb3))
  all_goals
    go_wp2
    go_ret
    exact ⟨rfl, HB3.out⟩

set_option maxRecDepth 100000 in
set_option maxHeartbeats 2000000 in
theorem rtext_two26 {O : List It} {v : Value} {e k : Nat} {x : It} {f g : Fm} (hx : O[e + 1]? = some x) (hl : O.length ≤ 1000) (hk : begB O (e + 1) 1 = (k : Int) + 1) (hF : TextAt O v (textF f) k) (hG : TextAt O v (textF g) e) (hfz : (textF f).size ≤ 100000) (hgz : (textF g).size ≤ 100000) (hop : x.op = 26) : TextAt O v (twoTx x.op (tightN f.op) (textF f) (tightN g.op) (textF g)) (e + 1) := by
  rw [hop, twoTx_26]
  have HSF := Lib.hid hF
  have HSG := Lib.hid hG
  unfold TextAt at HSF
  unfold TextAt at HSG
  obtain ⟨y, hy⟩ : ∃ s, textF f = s := ⟨_, rfl⟩
  have hyl : y.size ≤ 100002 := by rw [← hy]; exact Nat.le_trans hfz (by decide)
  obtain ⟨z, hz⟩ : ∃ s, textF g = s := ⟨_, rfl⟩
  have hzl : z.size ≤ 100002 := by rw [← hz]; exact Nat.le_trans hgz (by decide)
  rw [hy] at HSF ⊢
  rw [hz] at HSG ⊢
  clear hy hz hF hG hfz hgz
  intro W hW
  obtain ⟨g, off, cap, hv, hgl, a0, a1, a2, a3, a4, a5, a6, a7, a8⟩ := hW.at hx
  subst hv
  have hlt := (List.getElem?_eq_some_iff.1 hx).1
  obtain ⟨W0, hW0⟩ : ∃ W0, W.alloc (.cells #[.int .i64 x.op, .string x.ln, .int .i64 x.lnum, .string x.rn, .int .i64 x.rnum, .string x.name, .string x.user, .int .i64 x.line, .int .i64 x.col] 36) = W0 := ⟨_, rfl⟩
  have hA : Blk W0 W.heap.size #[.int .i64 x.op, .string x.ln, .int .i64 x.lnum, .string x.rn, .int .i64 x.rnum, .string x.name, .string x.user, .int .i64 x.line, .int .i64 x.col] 36 := by rw [← hW0]; exact Blk.new W _ _
  have hb0 : Below W.heap.size W W0 := by rw [← hW0]; exact (Below.refl _ W).alloc (Nat.le_refl _) _
  have HB0 := Lib.hid hb0
  have HI0 := Lib.hid (hW.keep hb0)
  have HX := Lib.hid hx
  have HK := Lib.hid (kids_2 (hW.keep hb0) hx (by rw [hop]; rfl) hl hk)
  have HS := Lib.hid (fun (W : World) => rsign_any W x.op)
  obtain ⟨sg, hsg⟩ : ∃ s, signB x.op = s := ⟨_, rfl⟩
  have hsgl : sg.size ≤ 8 := by rw [← hsg]; exact signB_size x.op
  rw [hsg] at HS
  have HKA := Lib.hid hA
  obtain ⟨p0, p1, p2, p3, p4, p5, p6, p7, p8⟩ := hA.nine
  obtain ⟨E, hE⟩ : ∃ E : Int, (((e + 1) : Nat) : Int) = E := ⟨_, rfl⟩
  have hez : E < (O.length : Int) := by clear HK; omega
  have he0 : (0 : Int) ≤ E := by clear HK; omega
  have ht1 : E.toNat = (e + 1) := by clear HK; omega
  rw [hE]
  rw [show ((e : Nat) : Int) + 1 = E by clear HK; omega] at HK
  have HO := Lib.hid hop
  rw [hop] at HS hW0 p0 a0
  rw [hop] at hsg
  rw [hsg]
  have n1 : ¬ 9223372036854775807 < sg.size + 2 := by omega
  have n2 : ¬ 9223372036854775807 < sg.size + 2 + y.size := by omega
  have n3 : ¬ 9223372036854775807 < sg.size + 2 + y.size + 3 := by omega
  have n4 : ¬ 9223372036854775807 < sg.size + 2 + y.size + 3 + z.size := by omega
  have n5 : ¬ 9223372036854775807 < sg.size + 2 + y.size + 3 + z.size + 1 := by omega
  clear hE hA hb0 hW hx hlt hsg hop hk
  go_enter Tryd.func17, Tryd.ntmps17
  go_upto_region 2 with fail
  clear hW0 a0 a1 a2 a3 a4 a5 a6 a7 a8 p0 p1 p2 p3 p4 p5 p6 p7 p8
  go_wp2_with fail
  refine HK.out.mono ?_
  rintro en w0 ⟨rfl, hw⟩
  have hwb : Below W0.heap.size W0 w0 := by rw [hw]; exact (Below.refl _ _).alloc (Nat.le_refl _) _
  have hkb : Blk w0 W0.heap.size #[.int .i64 k, .int .i64 e] 3 := by rw [hw]; exact Blk.new _ _ _
  have HBW := Lib.hid (HB0.out.trans (hwb.mono HB0.out.size))
  have HIW := Lib.hid (HI0.out.keep hwb)
  have HKW := Lib.hid (HKA.out.keep hwb)
  obtain ⟨p0, p1, p2, p3, p4, p5, p6, p7, p8⟩ := HKW.out.nine
  rw [HO.out] at p0
  have HKB := Lib.hid hkb
  clear hw hwb hkb
  go_wp2_with fail
  refine (HS.out _).mono ?_
  rintro en w1 ⟨rfl, hb1⟩
  have HB1 := Lib.hid (HBW.out.trans (hb1.mono HBW.out.size))
  have HI1 := Lib.hid (HIW.out.keep hb1)
  have HK1 := Lib.hid (HKW.out.keep hb1)
  have HC1 := Lib.hid (HKB.out.keep hb1)
  obtain ⟨q0, q1, q2, q3, q4, q5, q6, q7, q8⟩ := HK1.out.nine
  rw [HO.out] at q0
  clear p0 p1 p2 p3 p4 p5 p6 p7 p8 hb1 q1 q2 q3 q4 q5 q6 q7 q8
  obtain ⟨c0, c1⟩ := HC1.out.two
  obtain ⟨d0, d1⟩ := HC1.out.drew.two
  obtain ⟨d2, _⟩ := HK1.out.drew.nine
  rw [HO.out] at d2
  have HID := Lib.hid (show ItIn w1.drew _ _ from HI1.out)
  go_wp2
  go_region_held3 (fun w' => w'.cell? ⟨W0.heap.size, 0, none⟩ = some (.int .i64 k) ∧ w'.cell? ⟨W0.heap.size, 1, none⟩ = some (.int .i64 e) ∧ w'.cell? ⟨W.heap.size, 0, none⟩ = some (.int .i64 26))
    (first | (with_reducible exact ⟨d0, d1, d2⟩) | (with_reducible exact ⟨s0, s1, s2⟩) | (with_reducible exact ⟨t0, t1, t2⟩) | (trace_state; fail))
    (first
      | (go_simp; go_at_call 17; (with_reducible refine (HSF.out _ HID.out).mono ?_)
         rintro en w2 ⟨rfl, hb2⟩
         have HB2 := Lib.hid (HB1.out.drew.trans (hb2.mono HB1.out.drew.size))
         have HI2 := Lib.hid (HID.out.keep hb2)
         have HK2 := Lib.hid (HK1.out.drew.keep hb2)
         have HC2 := Lib.hid (HC1.out.drew.keep hb2)
         obtain ⟨s0, s1⟩ := HC2.out.two
         obtain ⟨s2, _⟩ := HK2.out.nine
         rw [HO.out] at s2
         clear hb2)
      | (go_simp; go_at_call 17; (with_reducible refine (HSG.out _ HI2.out).mono ?_)
         rintro en w3 ⟨rfl, hb3⟩
         have HB3 := Lib.hid (HB2.out.trans (hb3.mono HB2.out.size))
         obtain ⟨t0, t1⟩ := (HC2.out.keep hb3).two
         obtain ⟨t2, _⟩ := (HK2.out.keep hb3).nine
         rw [HO.out] at t2
         clear hb3))
  all_goals
    go_wp2
    go_ret
    exact ⟨rfl, HB3.out⟩

end Go.Proofs.YthhjepgcbfmfeaaDoor
