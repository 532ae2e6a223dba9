/- The maker of package put: in tells a zone in which the attribute is in a class. -/
import Derived.Test.YtjmggphnngffjaaPutC
namespace Go.Proofs.Ytjmggphnngffjaa
open Go.RowKit

/-- the zone that is told -/
def inCZ (cl : List (Int × Int)) (gl : List Int) (a r : Int) (i : Nat) (x y : Int) : Zn := (cl.set i (putZ x a true, y), clipL gl (r - 1))

set_option maxRecDepth 100000 in
set_option maxHeartbeats 4000000 in
theorem in_run {w0 W : World} {base bo bm : Nat} {v1 v2 v : Value} {cl : List (Int × Int)} {gl : List Int} {a r : Int} {zs : List Zn} (h : PI w0 base bo bm v1 v2 cl gl a r v zs W) (hcl : cl.length ≤ 60000) (hgl : gl.length ≤ 60000) (hr1 : 1 ≤ r) (hr2 : r ≤ 1000) (hl : zs.length ≤ 100000)
    (i : Nat) (x y : Int) (hx : cl[i]? = some (x, y)) :
    Calls Try.prog 61 #[.pointer (some ⟨bm, 0, none⟩), .int .i64 i] W fun e W' => e = .returned (.tuple #[]) ∧ ∃ v', PI w0 base bo bm v1 v2 cl gl a r v' (zs ++ [inCZ cl gl a r i x y]) W' ∧ KeepT base bo W W' := by
  have hk : i < cl.length := (List.getElem?_eq_some_iff.1 hx).1
  obtain ⟨ad1, k1, e1⟩ := h.zin.1.len
  obtain ⟨ad2, k2, e2⟩ := h.zin.2.len
  have HP := Lib.hid h
  have HXX := Lib.hid hx
  obtain ⟨n, hn⟩ : ∃ n, cl.length = n := ⟨_, rfl⟩
  obtain ⟨m, hm⟩ : ∃ m, gl.length = m := ⟨_, rfl⟩
  have HN := Lib.hid hn; have HM := Lib.hid hm
  have hblt := h.maker.lt
  have c0 : W.cell? ⟨bm, 0, none⟩ = some (.slice ad1 n k1) := by rw [← hn, ← e1]; exact h.maker.cell rfl
  have c1 : W.cell? ⟨bm, 1, none⟩ = some (.slice ad2 m k2) := by rw [← hm, ← e2]; exact h.maker.cell rfl
  have c3 : W.cell? ⟨bm, 3, none⟩ = some (.int .i64 r) := h.maker.cell rfl
  have hwr : IntKind.i64.wrap (r - 1) = r - 1 := by rw [IntKind.wrap_i64]; omega
  have hbA : Below W.heap.size W W.drew := (Below.refl _ W).drew
  have hbB : Below W.heap.size W (W.alloc (.cells #[.slice none 0 0, .slice none 0 0] 45)).drew := ((Below.refl _ W).alloc (Nat.le_refl _) _).drew
  have hA := dropClipI_any v1 v2 cl gl (r - 1) W.drew (h.zin.below hbA) (by omega) (by omega)
  have hB := dropClipI_any v1 v2 cl gl (r - 1) (W.alloc (.cells #[.slice none 0 0, .slice none 0 0] 45)).drew (h.zin.below hbB) (by omega) (by omega)
  rw [hn, hm] at hA hB
  rw [hn] at e1; rw [hm] at e2
  rw [e1, e2] at hA hB
  have HA := Lib.hid hA; have HB := Lib.hid hB
  rw [hn] at hk hcl; rw [hm] at hgl
  have HE1 := Lib.hid e1; have HE2 := Lib.hid e2
  clear h hx hA hB hn hm hbA hbB e1 e2
  go_enter Try.func61, Try.ntmps61
  go_upto_region 0 with fail
  go_cut [4] (fun v10 wx => ∃ (bz g1 g2 : Nat), v10 = .pointer (some ⟨bz, 0, none⟩) ∧ Hid (ZBox wx bz W.heap.size (.slice (some ⟨g1, 0, none⟩) n n) (.slice (some ⟨g2, 0, none⟩) m m) (cl, clipL gl (r - 1)) ∧ Below W.heap.size W wx ∧ W.heap.size ≤ bz))
  case first =>
    go_region_law (first
      | (go_simp; go_at_call 73; (with_reducible refine HA.out.mono ?_)
         rintro e w5 ⟨g1, g2, rfl, hz5, hb5⟩
         have HF := Lib.hid (show Below W.heap.size W w5 from ((Below.refl _ W).drew).trans hb5)
         have HZ := Lib.hid hz5
         have h5 := HF.out.size
         have HFIN := Lib.hid (show ZBox (w5.alloc (.cells #[.slice (some ⟨g1, 0, none⟩) n n, .slice (some ⟨g2, 0, none⟩) m m] 45)) w5.heap.size W.heap.size (.slice (some ⟨g1, 0, none⟩) n n) (.slice (some ⟨g2, 0, none⟩) m m) (cl, clipL gl (r - 1)) ∧ Below W.heap.size W (w5.alloc (.cells #[.slice (some ⟨g1, 0, none⟩) n n, .slice (some ⟨g2, 0, none⟩) m m] 45)) ∧ W.heap.size ≤ w5.heap.size from
           ⟨⟨Blk.new _ _ _, hz5.below ((Below.refl _ w5).alloc (Nat.le_refl _) _)⟩, HF.out.alloc h5 _, h5⟩)
         clear hz5 hb5)
      | (go_simp; go_at_call 73; (with_reducible refine HB.out.mono ?_)
         rintro e w5 ⟨g1, g2, rfl, hz5, hb5⟩
         have HF := Lib.hid (show Below W.heap.size W w5 from (((Below.refl _ W).alloc (Nat.le_refl _) _).drew).trans (hb5.mono (by simp)))
         have HZ := Lib.hid hz5
         have HX := Lib.hid (Blk.keep (b := W.heap.size) (show Blk (W.alloc (.cells #[.slice none 0 0, .slice none 0 0] 45)).drew W.heap.size _ _ from Blk.new _ _ _) hb5)
         have q0 := HX.out.two.1; have q1 := HX.out.two.2; have q2 := HX.out.free 0; have q3 := HX.out.free 1
         have h5 := HF.out.size
         have hz6 := ZoneAt.mono hz5 (show W.heap.size ≤ (W.alloc (.cells #[.slice none 0 0, .slice none 0 0] 45)).drew.heap.size by simp)
         have HFIN := Lib.hid (show ZBox ((w5.setCell ⟨W.heap.size, 0, none⟩ (.slice (some ⟨g1, 0, none⟩) n n)).setCell ⟨W.heap.size, 1, none⟩ (.slice (some ⟨g2, 0, none⟩) m m)) W.heap.size W.heap.size (.slice (some ⟨g1, 0, none⟩) n n) (.slice (some ⟨g2, 0, none⟩) m m) (cl, clipL gl (r - 1)) ∧ Below W.heap.size W ((w5.setCell ⟨W.heap.size, 0, none⟩ (.slice (some ⟨g1, 0, none⟩) n n)).setCell ⟨W.heap.size, 1, none⟩ (.slice (some ⟨g2, 0, none⟩) m m)) ∧ W.heap.size ≤ W.heap.size from
           ⟨⟨HX.out.put2 _ _, ⟨ownsRow_setCell_other (ownsRow_setCell_other hz6.1 (HX.out.row_ne hz6.1 (by decide)) _) (HX.out.row_ne hz6.1 (by decide)) _, ownsRow_setCell_other (ownsRow_setCell_other hz6.2 (HX.out.row_ne hz6.2 (by decide)) _) (HX.out.row_ne hz6.2 (by decide)) _⟩⟩,
             (HF.out.setCell (p := ⟨W.heap.size, 0, none⟩) (Nat.le_refl _) _).setCell (p := ⟨W.heap.size, 1, none⟩) (Nat.le_refl _) _, Nat.le_refl _⟩)
         clear hz5 hb5 hz6))
    all_goals
      go_wp2_with fail
      go_meet
      exact ⟨_, _, _, rfl, HFIN.out⟩
  case rest =>
    obtain ⟨bz, g1, g2, rfl, hcut⟩ := hcut
    have HX := Lib.hid hcut.out.1.1
    have HZ := Lib.hid hcut.out.1.2
    have HBL := Lib.hid hcut.out.2.1
    have hbz := hcut.out.2.2
    clear hcut
    have hbzl := HX.out.lt
    have hs2 := HBL.out.size
    have x0 := HX.out.two.1
    have hmx : Try.prog.follows .mixedOrders = true := by kernel_rfl
    obtain ⟨bb, hbb⟩ : ∃ bb, putZ x a true = bb := ⟨_, rfl⟩
    have HBB := Lib.hid hbb
    have c2 : wc.cell? ⟨bm, 2, none⟩ = some (.int .i64 a) := (HP.out.maker.keep HBL.out).cell rfl
    have hz1 := HZ.out.1
    rw [show (cl, clipL gl (r - 1)).1 = cl from rfl, HN.out] at hz1
    have cx := cellsP_get _ _ _ HXX.out
    have d1 : wc.cell? ⟨g1, i * 2, none⟩ = some (.int .i64 x) := by rw [hz1.cellAt _ (by omega)]; exact cx.1
    have df := owns_frozen hz1 (i * 2)
    obtain ⟨cur1, q1, b1⟩ := owns_row hz1
    have hg1 : g1 < wc.heap.size := (Array.getElem?_eq_some_iff.1 q1).1
    have hne1 : bz ≠ g1 := fun e => by subst e; have := HX.out; unfold Blk at this; rw [q1] at this; cases this
    have hpi : (0 : Int) ≤ (i : Int) := by omega
    have hpn : (i : Int) < (n : Int) := by omega
    have HZ1 := Lib.hid hz1
    clear cx hbb hz1 q1
    go_upto_region 1 with fail
    refine wp_region_still_tail 16 hmx (by kernel_rfl) ?_
    simp only [List.take_succ_cons, List.take_zero, List.drop_succ_cons, List.drop_zero]
    repeat still_step
    still_call ((with_any x a _).mono fun e w' h => ⟨h.1, h.2.symm⟩)
    repeat still_step
    refine wpStill_nil ?_
    change wpList _ _ _ _ _ wc.drew
    rw [HBB.out]
    have hx9 : Blk (wc.drew.setCell ⟨g1, i * 2, none⟩ (.int .i64 bb)) bz _ _ := Blk.other (w := wc.drew) HX.out hne1 (.int .i64 bb)
    have hz9 : ZoneAt (wc.drew.setCell ⟨g1, i * 2, none⟩ (.int .i64 bb)) W.heap.size (.slice (some ⟨g1, 0, none⟩) n n) (.slice (some ⟨g2, 0, none⟩) m m) (cl.set i (bb, y)) (clipL gl (r - 1)) := by
      refine ⟨?_, ?_⟩
      · rw [List.length_set, HN.out, cellsP_set1 _ _ _ _ _ HXX.out]
        exact owns_set (owns_drew HZ1.out) _ _
      · refine ownsRow_setCell_other (owns_drew HZ.out.2) ?_ _
        intro e
        have hz2 := HZ.out.2
        rw [show (cl, clipL gl (r - 1)).2.length = m by show (clipL gl (r - 1)).length = m; rw [clipL_len, HM.out]] at hz2
        obtain ⟨cur2, q2, b2⟩ := owns_row hz2
        obtain ⟨cur1, q1, b1⟩ := owns_row HZ1.out
        have e2 : g2 = g1 := by simpa [Value.ownBlock] using e
        subst e2
        rw [q1] at q2; cases q2
    have hb9 : Below W.heap.size W (wc.drew.setCell ⟨g1, i * 2, none⟩ (.int .i64 bb)) := HBL.out.drew.setCell (p := ⟨g1, i * 2, none⟩) b1 _
    have HB9 := Lib.hid hb9
    obtain ⟨W9, hW9⟩ : ∃ W9, wc.drew.setCell ⟨g1, i * 2, none⟩ (.int .i64 bb) = W9 := ⟨_, rfl⟩
    rw [hW9] at hx9 hz9 HB9
    have z0 := hx9.two.1
    have z1 : W9.cell? ⟨bz, 1, none⟩ = some (.slice (some ⟨g2, 0, none⟩) m m) := hx9.cell rfl
    have hp9 := HP.out.below HB9.out.drew
    have m4 : W9.cell? ⟨bm, 4, none⟩ = some (tellV bo) := (HP.out.maker.keep HB9.out).cell rfl
    unfold tellV at m4
    have HT := Lib.hid (tell_any (W := W9.drew) (c1 := .slice (some ⟨g1, 0, none⟩) n n) (c2 := .slice (some ⟨g2, 0, none⟩) m m) (z := (cl.set i (bb, y), clipL gl (r - 1))) hp9.box hp9.zones ⟨owns_mono (show W9.drew.ownsRow _ _ _ _ _ _ from hz9.1) HP.out.hb, owns_mono (show W9.drew.ownsRow _ _ _ _ _ _ from hz9.2) HP.out.hb⟩ hp9.hb hl)
    have HP9 := Lib.hid hp9
    clear hx9 hz9 hb9 hp9 HX HZ HBL hs2
    go_wp2_with fail
    go_region_law (first
      | (go_simp; go_at_call 36; (with_reducible refine HT.out.mono ?_)
         rintro e w10 ⟨rfl, hfin⟩
         have HFIN := Lib.hid hfin
         clear hfin))
    all_goals
      go_wp2
      first
      | go_end0
      | ((try simp only [Exit.inBlock, Exit.then]); refine bodyPost_ret (results_none rfl _ _ _) rfl ?_)
      obtain ⟨v', hx, hz, hk⟩ := HFIN.out
      exact ⟨rfl, v', HP9.out.step hk hx (by unfold inCZ; rw [HBB.out]; exact hz), (KeepT.of_below HB9.out.drew).trans hk⟩

end Go.Proofs.Ytjmggphnngffjaa
