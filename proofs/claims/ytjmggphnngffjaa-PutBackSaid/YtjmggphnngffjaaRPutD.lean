/- warderref24: in. -/
import Derived.Test.YtjmggphnngffjaaRPutC
namespace Go.Proofs.Ytjmggphnngffjaa
open Go.RowKit Go.Shelf

set_option maxRecDepth 100000 in
set_option maxHeartbeats 4000000 in
theorem rin24_any {w : World} {v1 v2 : Value} {cl : List (Int × Int)} {gl : List Int} {a r : Int} (hz : ZoneIn w v1 v2 cl gl) (i : Nat) (x y : Int) (hx : cl[i]? = some (x, y)) (hx0 : -9223372036854775808 ≤ x) (hx1 : x ≤ 9223372036854775807)
    (hcl : cl.length ≤ 1000) (hgl : gl.length ≤ 1000) (hr1 : 1 ≤ r) (hr2 : r ≤ 1000) :
    Calls Try.prog 47 #[.agg #[v1, v2], .int .i64 a, .int .i64 i, .int .i64 r] w fun e w' => ∃ c1 c2, e = .returned (.agg #[c1, c2]) ∧ ZoneAt w' w.heap.size c1 c2 (inCZ cl gl a r i x y).1 (inCZ cl gl a r i x y).2 ∧ Below w.heap.size w w' := by
  have hi : i < cl.length := (List.getElem?_eq_some_iff.1 hx).1
  obtain ⟨ad1, k1, e1⟩ := hz.1.len
  obtain ⟨ad2, k2, e2⟩ := hz.2.len
  obtain ⟨n, hn⟩ : ∃ n, cl.length = n := ⟨_, rfl⟩
  obtain ⟨m, hm⟩ : ∃ m, gl.length = m := ⟨_, rfl⟩
  have hz1 := hz.1
  rw [hn] at e1 hcl hz1 hi; rw [hm] at e2 hgl
  subst e1; subst e2
  have HZ := Lib.hid hz
  have HN := Lib.hid hn; have HM := Lib.hid hm; have HX := Lib.hid hx
  obtain ⟨W1, hW1⟩ : ∃ W1, w.alloc (.cells #[.slice ad1 n k1, .slice ad2 m k2] 45) = W1 := ⟨_, rfl⟩
  have hs1 : W1.heap.size = w.heap.size + 1 := by rw [← hW1]; simp
  obtain ⟨W2, hW2⟩ : ∃ W2, W1.alloc (.cells #[.slice none 0 0, .slice none 0 0] 45) = W2 := ⟨_, rfl⟩
  have hs2 : W2.heap.size = w.heap.size + 2 := by rw [← hW2]; simp [hs1]
  obtain ⟨W3, hW3⟩ : ∃ W3, W2.alloc (.cells #[] 63) = W3 := ⟨_, rfl⟩
  have hs3 : W3.heap.size = w.heap.size + 3 := by rw [← hW3]; simp [hs2]
  have hb3 : Below w.heap.size w W3 := by
    rw [← hW3, ← hW2, ← hW1]; exact (((Below.refl _ w).alloc (Nat.le_refl _) _).alloc (by simp) _).alloc (by simp; omega) _
  have x1 : Blk W3 w.heap.size #[.slice ad1 n k1, .slice ad2 m k2] 45 := by
    rw [← hW3, ← hW2, ← hW1]; exact ((Blk.new _ _ _).alloc _).alloc _
  have x2 : Blk W3 (w.heap.size + 1) #[.slice none 0 0, .slice none 0 0] 45 := by
    rw [← hW3, ← hW2, ← hs1]; exact (Blk.new _ _ _).alloc _
  have own0 : W3.ownsRow (w.heap.size + 2) 63 2 (.slice (some ⟨w.heap.size + 2, 0, none⟩) 0 0) 0 [] := by
    rw [← hW3, ← hs2]; exact World.ownsRow_lit W2 #[] 0 (Nat.le_refl _) (Nat.zero_le _) rfl
  have hr3 := hz1.below hb3
  have HX1 := Lib.hid x1; have HX2 := Lib.hid x2; have HB3 := Lib.hid hb3; have HO0 := Lib.hid own0; have HR3 := Lib.hid hr3
  have c0 := x1.two.1
  have hwr : IntKind.i64.wrap (r - 1) = r - 1 := by rw [IntKind.wrap_i64]; omega
  have hin : (i : Int) < (n : Int) := by omega
  have hi0 : (0 : Int) ≤ (i : Int) := by omega
  clear hz hz1 hb3 x1 x2 own0 hr3 hn hm hx
  go_enter Try.func47, Try.ntmps47
  go_wp2_with (first
    | (at_builtin
       refine wpList_appX W3 rfl _ _ 43 rfl 63 (.agg #[.int .i64 0, .int .i64 0]) 2 16 (w.heap.size + 2) Try.underlying43 info_class rfl (by decide) (by decide) (.slice (some ⟨w.heap.size + 2, 0, none⟩) 0 0) 0 [] rfl HO0.out n (cellsP cl) ⟨_, rfl, HR3.out⟩ (cellsP_one _) (by omega) (by omega) ?_
       intro v' w5 ho5 hg5
       have y1 := HX1.out.grown hg5 (by simp only [Value.ownBlock, ne_eq, Option.some.injEq]; omega)
       have y2 := HX2.out.grown hg5 (by simp only [Value.ownBlock, ne_eq, Option.some.injEq]; omega)
       have hb5 := HB3.out.grown hg5 HB3.out.size (fun k e => by simp [Value.ownBlock] at e; omega)
       rw [Nat.zero_add, List.nil_append] at ho5
       obtain ⟨g5, cap5, hv', hg5a, hg5b⟩ := owns_shape ho5 (by omega)
       subst hv'
       have cx := cellsP_get _ _ _ HX.out
       have d0 : w5.cell? ⟨g5, i * 2, none⟩ = some (.int .i64 x) := by rw [ho5.cellAt _ (by omega)]; exact cx.1
       have hne1 : w.heap.size ≠ g5 := by omega
       have HY1 := Lib.hid y1; have HY2 := Lib.hid y2; have HB5 := Lib.hid hb5; have HO5 := Lib.hid ho5
       clear y1 y2 hb5 cx ho5 hg5)
    | fail)
  have HPT := Lib.hid (put_any x a true w5 hx0 hx1)
  obtain ⟨bb, hbb⟩ : ∃ bb, putZ x a true = bb := ⟨_, rfl⟩
  have HBB := Lib.hid hbb
  rw [hbb] at HPT
  clear hbb
  with_reducible refine HPT.out.mono ?_
  rintro e w6 ⟨rfl, hb6⟩
  have y1 := HY1.out.keep hb6
  have y2 := HY2.out.keep hb6
  have o6 := owns_below HO5.out hb6
  have hb60 := HB5.out.trans (hb6.mono HB5.out.size)
  have d1 : w6.cell? ⟨g5, i * 2, none⟩ = some (.int .i64 x) := by
    rw [o6.cellAt _ (by omega)]; exact (cellsP_get _ _ _ HX.out).1
  have d2 := owns_frozen o6 (i * 2)
  have hne2 : w.heap.size + 1 ≠ g5 := by omega
  have y3 := y1.other (g := g5) (j := i * 2) hne1 (.int .i64 bb)
  have y4 := y2.other (g := g5) (j := i * 2) hne2 (.int .i64 bb)
  have o7 := owns_set o6 (i * 2) (.int .i64 bb)
  have hb7 : Below w.heap.size w (w6.setCell ⟨g5, i * 2, none⟩ (.int .i64 bb)) := hb60.setCell (p := ⟨g5, i * 2, none⟩) (by simp; omega) _
  rw [← cellsP_set1 _ _ _ _ _ HX.out] at o7
  obtain ⟨w7, hw7⟩ : ∃ w7, w6.setCell ⟨g5, i * 2, none⟩ (.int .i64 bb) = w7 := ⟨_, rfl⟩
  rw [hw7] at y3 y4 o7 hb7
  have c7 := y3.two.2
  have HCL := Lib.hid (rclipped_any (w := w7) (r - 1) (HZ.out.below hb7).2 (by rw [HM.out]; omega))
  rw [HM.out] at HCL
  have HY3 := Lib.hid y3; have HY4 := Lib.hid y4; have HO7 := Lib.hid o7; have HB7 := Lib.hid hb7
  have hg6 : g5 < w6.heap.size := Nat.lt_of_lt_of_le hg5b hb6.size
  clear y1 y2 o6 hb60 y3 y4 o7 hb7 hb6 HPT HY1 HY2 HO5 HB5 d0
  go_wp2_with fail
  refine HCL.out.mono ?_
  rintro e w8 ⟨gv, rfl, ho8, hb8⟩
  obtain ⟨gad, gcap, hgv⟩ := owns_len ho8
  subst hgv
  have y8 := HY4.out.keep hb8
  have e0 := y8.two.1; have e1 := y8.two.2; have e2 := y8.free 0; have e3 := y8.free 1
  have o8 := owns_below HO7.out hb8
  have hb80 := HB7.out.trans (hb8.mono HB7.out.size)
  have HY8 := Lib.hid y8; have HO8 := Lib.hid o8; have HB8 := Lib.hid hb80; have HG8 := Lib.hid (owns_mono ho8 HB7.out.size)
  have hl8 := y8.lt
  clear ho8 hb8 y8 o8 hb80
  go_wp2
  have v1 := HY8.out.put2 (.slice (some ⟨g5, 0, none⟩) n cap5) (.slice gad m gcap)
  have f0 := v1.two.1; have f1 := v1.two.2
  refine bodyPost_ret (v := .agg #[.slice (some ⟨g5, 0, none⟩) n cap5, .slice gad m gcap]) (by simp [results, Try.results47, go_sem, f0, f1]) rfl ?_
  refine ⟨_, _, rfl, ⟨?_, ?_⟩, (HB8.out.setCell (p := ⟨w.heap.size + 1, 0, none⟩) (Nat.le_succ _) _).setCell (p := ⟨w.heap.size + 1, 1, none⟩) (Nat.le_succ _) _⟩
  · unfold inCZ
    dsimp only
    rw [HBB.out, List.length_set, HN.out]
    have o9 := owns_mono HO8.out (show w.heap.size ≤ w.heap.size + 2 by omega)
    exact ownsRow_setCell_other (ownsRow_setCell_other o9 (HY8.out.row_ne o9 (by decide)) _) (HY8.out.row_ne o9 (by decide)) _
  · unfold inCZ
    dsimp only
    rw [clipL_len, HM.out]
    exact ownsRow_setCell_other (ownsRow_setCell_other HG8.out (HY8.out.row_ne HG8.out (by decide)) _) (HY8.out.row_ne HG8.out (by decide)) _

end Go.Proofs.Ytjmggphnngffjaa
