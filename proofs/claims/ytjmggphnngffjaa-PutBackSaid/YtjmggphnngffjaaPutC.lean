/- The maker of package put: put tells a zone in which the attribute is a class of its own. -/
import Derived.Test.YtjmggphnngffjaaPutB
namespace Go.Proofs.Ytjmggphnngffjaa
open Go.RowKit

/-- classes, and one of the attribute alone at a place -/
def ownC (cl : List (Int × Int)) (a : Int) (k : Nat) : List (Int × Int) := cl.take k ++ [(bitZ a, -1)] ++ cl.drop k
theorem ownC_len (cl : List (Int × Int)) (a : Int) (k : Nat) : (ownC cl a k).length = cl.length + 1 := by simp [ownC]; omega
theorem ownC_cells (cl : List (Int × Int)) (a : Int) (k : Nat) : cellsP (ownC cl a k) = (cellsP cl).take (k * 2) ++ [.int .i64 (bitZ a), .int .i64 (-1)] ++ (cellsP cl).drop (k * 2) := by
  rw [cellsP_take, cellsP_drop]; simp [ownC, cellsP_append]; simp [cellsP]
def clipL (gl : List Int) (r : Int) : List Int := gl.map fun g => klip g r
theorem clipL_len (gl : List Int) (r : Int) : (clipL gl r).length = gl.length := by simp [clipL]
/-- the zone that is told -/
def ownZ (cl : List (Int × Int)) (gl : List Int) (a r : Int) (k f u : Nat) (news : List Int) : Zn := (ownC cl a k, repG (clipL gl (r - 1)) f u news)

/-- a zone's box, and the zone in it -/
def ZBox (W : World) (b B : Nat) (c1 c2 : Value) (z : Zn) : Prop := Blk W b #[c1, c2] 45 ∧ ZoneAt W B c1 c2 z.1 z.2

set_option maxRecDepth 100000 in
set_option maxHeartbeats 4000000 in
theorem put_run {w0 W : World} {base bo bm : Nat} {v1 v2 v : Value} {cl : List (Int × Int)} {gl : List Int} {a r : Int} {zs : List Zn} (h : PI w0 base bo bm v1 v2 cl gl a r v zs W) (hcl : cl.length ≤ 60000) (hgl : gl.length ≤ 60000) (hr1 : 1 ≤ r) (hr2 : r ≤ 1000) (hl : zs.length ≤ 100000)
    (k f u : Nat) (gv : Value) (news : List Int) (hk : k ≤ cl.length) (hrep : RepOK W gv news f u gl.length) :
    Calls Try.prog 58 #[.pointer (some ⟨bm, 0, none⟩), .int .i64 k, .int .i64 f, .int .i64 u, gv] W fun e W' => e = .returned (.tuple #[]) ∧ ∃ v', PI w0 base bo bm v1 v2 cl gl a r v' (zs ++ [ownZ cl gl a r k f u news]) W' ∧ KeepT base bo W W' := by
  obtain ⟨gad, gk, hgv, hu, hf⟩ := hrep.vform
  obtain ⟨ad1, k1, e1⟩ := h.zin.1.len
  obtain ⟨ad2, k2, e2⟩ := h.zin.2.len
  have HP := Lib.hid h
  have HR := Lib.hid hrep
  obtain ⟨n, hn⟩ : ∃ n, cl.length = n := ⟨_, rfl⟩
  obtain ⟨m, hm⟩ : ∃ m, gl.length = m := ⟨_, rfl⟩
  have HN := Lib.hid hn; have HM := Lib.hid hm
  have hblt := h.maker.lt
  have c0 : W.cell? ⟨bm, 0, none⟩ = some (.slice ad1 n k1) := by rw [← hn, ← e1]; exact h.maker.cell rfl
  have c1 : W.cell? ⟨bm, 1, none⟩ = some (.slice ad2 m k2) := by rw [← hm, ← e2]; exact h.maker.cell rfl
  have c3 : W.cell? ⟨bm, 3, none⟩ = some (.int .i64 r) := h.maker.cell rfl
  have hwr : IntKind.i64.wrap (r - 1) = r - 1 := by rw [IntKind.wrap_i64]; omega
  have hbA : Below W.heap.size W W.drew := (Below.refl _ W).drew
  have hbB : Below W.heap.size W (W.alloc (.cells #[.slice none 0 0, .slice none 0 0] 45)).drew := ((Below.refl _ W).alloc (Nat.le_refl _) _).drew
  have hA := dropClipI_any v1 v2 cl gl (r - 1) W.drew (h.zin.below hbA) (by omega) (by omega)
  have hB := dropClipI_any v1 v2 cl gl (r - 1) (W.alloc (.cells #[.slice none 0 0, .slice none 0 0] 45)).drew (h.zin.below hbB) (by omega) (by omega)
  rw [hn, hm] at hA hB
  rw [hn] at e1; rw [hm] at e2
  rw [e1, e2] at hA hB
  have HA := Lib.hid hA; have HB := Lib.hid hB
  rw [hn] at hk hcl; rw [hm] at hgl hu hf
  subst hgv
  have HE1 := Lib.hid e1; have HE2 := Lib.hid e2
  clear h hrep hA hB hn hm hbA hbB e1 e2
  go_enter Try.func58, Try.ntmps58
  go_upto_region 0 with fail
  go_cut [10] (fun v10 wx => ∃ (bz g1 g2 : Nat), v10 = .pointer (some ⟨bz, 0, none⟩) ∧ Hid (ZBox wx bz W.heap.size (.slice (some ⟨g1, 0, none⟩) n n) (.slice (some ⟨g2, 0, none⟩) m m) (cl, clipL gl (r - 1)) ∧ Below W.heap.size W wx ∧ W.heap.size ≤ bz))
  case first =>
    go_region_law (first
      | (go_simp; go_at_call 73; (with_reducible refine HA.out.mono ?_)
         rintro e w5 ⟨g1, g2, rfl, hz5, hb5⟩
         have HF := Lib.hid (show Below W.heap.size W w5 from ((Below.refl _ W).drew).trans hb5)
         have HZ := Lib.hid hz5
         have h5 := HF.out.size
         have HFIN := Lib.hid (show ZBox (w5.alloc (.cells #[.slice (some ⟨g1, 0, none⟩) n n, .slice (some ⟨g2, 0, none⟩) m m] 45)) w5.heap.size W.heap.size (.slice (some ⟨g1, 0, none⟩) n n) (.slice (some ⟨g2, 0, none⟩) m m) (cl, clipL gl (r - 1)) ∧ Below W.heap.size W (w5.alloc (.cells #[.slice (some ⟨g1, 0, none⟩) n n, .slice (some ⟨g2, 0, none⟩) m m] 45)) ∧ W.heap.size ≤ w5.heap.size from
           ⟨⟨Blk.new _ _ _, hz5.below ((Below.refl _ w5).alloc (Nat.le_refl _) _)⟩, HF.out.alloc h5 _, h5⟩)
         clear hz5 hb5)
      | (go_simp; go_at_call 73; (with_reducible refine HB.out.mono ?_)
         rintro e w5 ⟨g1, g2, rfl, hz5, hb5⟩
         have HF := Lib.hid (show Below W.heap.size W w5 from (((Below.refl _ W).alloc (Nat.le_refl _) _).drew).trans (hb5.mono (by simp)))
         have HZ := Lib.hid hz5
         have HX := Lib.hid (Blk.keep (b := W.heap.size) (show Blk (W.alloc (.cells #[.slice none 0 0, .slice none 0 0] 45)).drew W.heap.size _ _ from Blk.new _ _ _) hb5)
         have q0 := HX.out.two.1; have q1 := HX.out.two.2; have q2 := HX.out.free 0; have q3 := HX.out.free 1
         have h5 := HF.out.size
         have hz6 := ZoneAt.mono hz5 (show W.heap.size ≤ (W.alloc (.cells #[.slice none 0 0, .slice none 0 0] 45)).drew.heap.size by simp)
         have HFIN := Lib.hid (show ZBox ((w5.setCell ⟨W.heap.size, 0, none⟩ (.slice (some ⟨g1, 0, none⟩) n n)).setCell ⟨W.heap.size, 1, none⟩ (.slice (some ⟨g2, 0, none⟩) m m)) W.heap.size W.heap.size (.slice (some ⟨g1, 0, none⟩) n n) (.slice (some ⟨g2, 0, none⟩) m m) (cl, clipL gl (r - 1)) ∧ Below W.heap.size W ((w5.setCell ⟨W.heap.size, 0, none⟩ (.slice (some ⟨g1, 0, none⟩) n n)).setCell ⟨W.heap.size, 1, none⟩ (.slice (some ⟨g2, 0, none⟩) m m)) ∧ W.heap.size ≤ W.heap.size from
           ⟨⟨HX.out.put2 _ _, ⟨ownsRow_setCell_other (ownsRow_setCell_other hz6.1 (HX.out.row_ne hz6.1 (by decide)) _) (HX.out.row_ne hz6.1 (by decide)) _, ownsRow_setCell_other (ownsRow_setCell_other hz6.2 (HX.out.row_ne hz6.2 (by decide)) _) (HX.out.row_ne hz6.2 (by decide)) _⟩⟩,
             (HF.out.setCell (p := ⟨W.heap.size, 0, none⟩) (Nat.le_refl _) _).setCell (p := ⟨W.heap.size, 1, none⟩) (Nat.le_refl _) _, Nat.le_refl _⟩)
         clear hz5 hb5 hz6))
    all_goals
      go_wp2_with fail
      go_meet
      exact ⟨_, _, _, rfl, HFIN.out⟩
  case rest =>
    obtain ⟨bz, g1, g2, rfl, hcut⟩ := hcut
    have HX := Lib.hid hcut.out.1.1
    have HZ := Lib.hid hcut.out.1.2
    have HBL := Lib.hid hcut.out.2.1
    have hbz := hcut.out.2.2
    clear hcut
    have hbzl := HX.out.lt
    have hs2 := HBL.out.size
    have x0 := HX.out.two.1
    have xf := HX.out.free 0
    have HAL := Lib.hid (alone_any (W := wc.drew) (HP.out.maker.keep (HBL.out.drew)))
    obtain ⟨bb, hbb⟩ : ∃ bb, bitZ a = bb := ⟨_, rfl⟩
    have HBB := Lib.hid hbb
    rw [hbb] at HAL
    clear hbb
    go_upto_region 1 with fail
    go_cut [10] (fun v10 wy => v10 = .pointer (some ⟨bz, 0, none⟩) ∧ ∃ (g3 cap3 : Nat), Hid (ZBox wy bz W.heap.size (.slice (some ⟨g3, 0, none⟩) (n + 1) cap3) (.slice (some ⟨g2, 0, none⟩) m m) (ownC cl a k, clipL gl (r - 1)) ∧ Below W.heap.size W wy))
    case first =>
      go_region_law (first
        | (go_simp; go_at_call 75; (with_reducible refine HAL.out.mono ?_)
           rintro e w6 ⟨rfl, hb6⟩
           have hb7 : Below W.heap.size W w6 := HBL.out.drew.trans (hb6.mono HBL.out.drew.size)
           have hx6 : Blk w6 bz #[.slice (some ⟨g1, 0, none⟩) n n, .slice (some ⟨g2, 0, none⟩) m m] 45 := Blk.keep (w := wc.drew) HX.out hb6
           have hz6 : ZoneAt w6 W.heap.size (.slice (some ⟨g1, 0, none⟩) n n) (.slice (some ⟨g2, 0, none⟩) m m) cl (clipL gl (r - 1)) := ZoneAt.below (w := wc.drew) HZ.out hb6
           have h6 := hb6.size
           have h60 : wc.heap.size ≤ w6.heap.size := h6
           have y0 := hx6.two.1
           have hbz6 := hx6.lt
           have yf := hx6.free 0
           have hb8 : Below w6.heap.size w6 (w6.alloc (.cells #[.int .i64 bb, .int .i64 (-1)] 63)) := (Below.refl _ _).alloc (Nat.le_refl _) _
           have hr8 := (hz6.below hb8).1
           rw [HN.out] at hr8
           have HI := Lib.hid (ins_cls g1 n W.heap.size k w6.heap.size 0 1 (cellsP cl) [.int .i64 bb, .int .i64 (-1)] (w6.alloc (.cells #[.int .i64 bb, .int .i64 (-1)] 63)) hr8 (cellsP_one _) hk (by omega) rfl (by decide) (by decide) (by simp [Value.oneCell']) (by simp) (by
             intro j u hu
             rw [World.cell?_alloc_at _ _ _ _ (by simp)]
             simpa using hu))
           have HB8 := Lib.hid (show Below W.heap.size W (w6.alloc (.cells #[.int .i64 bb, .int .i64 (-1)] 63)) from hb7.alloc hb7.size _)
           have HX8 := Lib.hid (hx6.alloc (.cells #[.int .i64 bb, .int .i64 (-1)] 63))
           have HZ8 := Lib.hid (hz6.below hb8)
           clear hb6 hb7 hx6 hz6 hb8 hr8)
        | (go_simp; go_at_call 74; (with_reducible refine HI.out.mono ?_)
           rintro e w9 ⟨g3, cap3, rfl, ho9, hb9⟩
           have HX9 := Lib.hid (HX8.out.keep hb9)
           have h9 := hb9.size
           have u0 := HX9.out.two.1
           have uf := HX9.out.free 0
           have HB9 := Lib.hid (HB8.out.trans (hb9.mono HB8.out.size))
           have HR9 := Lib.hid (owns_mono ho9 HB8.out.size)
           have HZ9 := Lib.hid (HZ8.out.below hb9)
           clear ho9 hb9))
      all_goals
        have HFIN := Lib.hid (show ZBox (w9.setCell ⟨bz, 0, none⟩ (.slice (some ⟨g3, 0, none⟩) (n + 1) cap3)) bz W.heap.size (.slice (some ⟨g3, 0, none⟩) (n + 1) cap3) (.slice (some ⟨g2, 0, none⟩) m m) (ownC cl a k, clipL gl (r - 1)) ∧ Below W.heap.size W (w9.setCell ⟨bz, 0, none⟩ (.slice (some ⟨g3, 0, none⟩) (n + 1) cap3)) from
          ⟨⟨HX9.out.store 0 _, by
            refine ⟨?_, ownsRow_setCell_other HZ9.out.2 (HX9.out.row_ne HZ9.out.2 (by decide)) _⟩
            show World.ownsRow _ _ _ _ _ (ownC cl a k).length (cellsP (ownC cl a k))
            rw [ownC_len, HN.out, ownC_cells, HBB.out]
            exact ownsRow_setCell_other HR9.out (HX9.out.row_ne HR9.out (by decide)) _⟩, HB9.out.setCell (p := ⟨bz, 0, none⟩) hbz _⟩)
        go_wp2_with fail
        go_meet
        exact ⟨rfl, _, _, HFIN.out⟩
    case rest =>
      clear x0 xf HX HZ HBL HAL hbzl hs2
      obtain ⟨rfl, g3, cap3, hcut⟩ := hcut
      have HX := Lib.hid hcut.out.1.1
      have HZ := Lib.hid hcut.out.1.2
      have HBL := Lib.hid hcut.out.2
      have HRE := Lib.hid (HR.out.below HBL.out)
      have hs2 := HBL.out.size
      have hr2' := HZ.out.2
      rw [show (ownC cl a k, clipL gl (r - 1)).2 = clipL gl (r - 1) from rfl, clipL_len, HM.out] at hr2'
      have HRP := Lib.hid (rep_any g2 m W.heap.size f u (.slice gad gk gk) (clipL gl (r - 1)) news wc hr2' (by omega) hs2 (by rw [← HM.out]; exact HRE.out))
      obtain ⟨L, hL⟩ : ∃ L, (repG (clipL gl (r - 1)) f u news) = L := ⟨_, rfl⟩
      have HLL := Lib.hid hL
      rw [hL] at HRP
      obtain ⟨q, hq⟩ : ∃ q, L.length = q := ⟨_, rfl⟩
      have HQ := Lib.hid hq
      rw [hq] at HRP
      have x1 := HX.out.two.2
      clear hcut hr2' hL hq
      go_wp2_with fail
      refine HRP.out.mono ?_
      rintro e w8 ⟨g4, cap4, rfl, ho8, hb8⟩
      have hx8 := HX.out.keep hb8
      have hz8 := HZ.out.below hb8
      have hb88 := HBL.out.trans (hb8.mono HBL.out.size)
      have y0 := hx8.two.2
      have yf := hx8.free 1
      have hx9 := hx8.store 1 (.slice (some ⟨g4, 0, none⟩) q cap4)
      have hz9 : ZoneAt (w8.setCell ⟨bz, 1, none⟩ (.slice (some ⟨g4, 0, none⟩) q cap4)) W.heap.size (.slice (some ⟨g3, 0, none⟩) (n + 1) cap3) (.slice (some ⟨g4, 0, none⟩) q cap4) (ownC cl a k) L :=
        ⟨ownsRow_setCell_other hz8.1 (hx8.row_ne hz8.1 (by decide)) _, by rw [HQ.out]; exact ownsRow_setCell_other ho8 (hx8.row_ne ho8 (by decide)) _⟩
      have hb9 : Below W.heap.size W (w8.setCell ⟨bz, 1, none⟩ (.slice (some ⟨g4, 0, none⟩) q cap4)) := hb88.setCell (p := ⟨bz, 1, none⟩) hbz _
      have HB9 := Lib.hid hb9
      obtain ⟨W9, hW9⟩ : ∃ W9, w8.setCell ⟨bz, 1, none⟩ (.slice (some ⟨g4, 0, none⟩) q cap4) = W9 := ⟨_, rfl⟩
      rw [hW9] at hx9 hz9 HB9
      have z0 := hx9.two.1
      have z1 : W9.cell? ⟨bz, 1, none⟩ = some (.slice (some ⟨g4, 0, none⟩) q cap4) := hx9.cell rfl
      have hp9 := HP.out.below HB9.out.drew
      have m4 : W9.cell? ⟨bm, 4, none⟩ = some (tellV bo) := (HP.out.maker.keep HB9.out).cell rfl
      unfold tellV at m4
      have HT := Lib.hid (tell_any (W := W9.drew) (c1 := .slice (some ⟨g3, 0, none⟩) (n + 1) cap3) (c2 := .slice (some ⟨g4, 0, none⟩) q cap4) (z := (ownC cl a k, L)) hp9.box hp9.zones ⟨owns_mono (show W9.drew.ownsRow _ _ _ _ _ _ from hz9.1) HP.out.hb, owns_mono (show W9.drew.ownsRow _ _ _ _ _ _ from hz9.2) HP.out.hb⟩ hp9.hb hl)
      have HP9 := Lib.hid hp9
      clear ho8 hb8 hx8 hz8 hb88 hx9 hz9 hb9 hp9 HX HZ HBL HRE HRP hs2
      go_wp2_with fail
      go_region_law (first
        | (go_simp; go_at_call 36; (with_reducible refine HT.out.mono ?_)
           rintro e w10 ⟨rfl, hfin⟩
           have HFIN := Lib.hid hfin
           clear hfin))
      all_goals
        go_wp2
        first
        | go_end0
        | ((try simp only [Exit.inBlock, Exit.then]); refine bodyPost_ret (results_none rfl _ _ _) rfl ?_)
        obtain ⟨v', hx, hz, hk⟩ := HFIN.out
        exact ⟨rfl, v', HP9.out.step hk hx (by unfold ownZ; rw [HLL.out]; exact hz), (KeepT.of_below HB9.out.drew).trans hk⟩

end Go.Proofs.Ytjmggphnngffjaa
