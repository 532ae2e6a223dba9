/- The iterator of splits (package halve): its closure put, and the function over yield. -/
import Derived.Test.YtjmggphnngffjaaHalve1
import Derived.Test.YtjmggphnngffjaaSeqSt
import Derived.Shelf.Abstract
import Derived.Shelf.RegionOpen
import Derived.OwnWalkIn
import Derived.TacticsInMore
import Derived.LoopNIn
import Derived.LoopIn
namespace Go.Proofs.Ytjmggphnngffjaa
open Go.RowKit Go.Shelf
attribute [local go_sem] Oper.semAt_some

theorem eq_pair (a b c d : Int) (w : World) : (Op.equalIn 10000 36 (.agg #[.int .i64 a, .int .i64 b]) (.agg #[.int .i64 c, .int .i64 d])).run Try.prog w = .ok (a == c && b == d) w := by
  have u3 := Try.underlying3
  have a3 := Try.isAgg3
  have z3 := Try.sizeOf3
  rw [show (10000 : Nat) = 9999 + 1 from rfl, Op.equalIn]
  simp only [Sem.run_bind, run_underlying Try.underlying36, Result.andThen_ok]
  simp only [Std.Legacy.Range.forIn_eq_forIn_range', Std.Legacy.Range.size, Nat.sub_zero, Nat.add_sub_cancel, Nat.div_one, List.range'_succ, List.range'_zero, List.forIn_cons, List.forIn_nil]
  go_simp
  by_cases h1 : a = c <;> by_cases h2 : b = d <;> simp [h1, h2]
attribute [local go_sem] eq_pair

set_option maxRecDepth 10000 in
set_option maxHeartbeats 1000000 in
theorem put_same (F : Fence) (n : Nat) (hf : F.fn 79) (hro : F.round = none) (bh L by' : Nat) (a b h na nb : Int) (W : World)
    (ha : (a ≤ h ∧ na = a) ∨ (h < a ∧ na = h)) (hb : (b ≤ h ∧ nb = b) ∨ (h < b ∧ nb = h))
    (hh : W.cell? ⟨bh, 0, none⟩ = some (.int .i64 h)) (hx : W.cell? ⟨L, 0, none⟩ = some (.int .i64 na)) (hy : W.cell? ⟨L, 1, none⟩ = some (.int .i64 nb)) (hL : L < W.heap.size) :
    CallsIn F n Try.prog 79 #[.int .i64 a, .int .i64 b, .pointer (some ⟨bh, 0, none⟩), .pointer (some ⟨L, 0, none⟩), .pointer (some ⟨by', 0, none⟩)] W
      fun e w' => e = .returned (.bool true) ∧ w' = W.alloc (.cells #[.int .i64 na, .int .i64 nb] 36) := by
  rcases ha with ⟨ha, rfl⟩ | ⟨ha, rfl⟩ <;> rcases hb with ⟨hb, rfl⟩ | ⟨hb, rfl⟩
  all_goals
    refine callsIn_of_wp Try.func79 rfl hf ?_ hro
    simp only [Try.ntmps79, List.size_toArray, List.length_cons, List.length_nil, Nat.reduceAdd, Nat.reduceSub, Array.replicate_succ, Array.replicate_zero, List.push_toArray, List.append_toArray, List.nil_append, List.cons_append]
    gi_wp2
    go_ret
    exact ⟨rfl, rfl⟩

set_option maxRecDepth 10000 in
set_option maxHeartbeats 1000000 in
theorem put_new (F : Fence) (n : Nat) (hf : F.fn 79) (hro : F.round = none) (bh L by' l : Nat) (a b h na nb x y : Int) (W : World) {R : Ending → World → Prop}
    (ha : (a ≤ h ∧ na = a) ∨ (h < a ∧ na = h)) (hb : (b ≤ h ∧ nb = b) ∨ (h < b ∧ nb = h)) (hne : (na == x && nb == y) = false)
    (hh : W.cell? ⟨bh, 0, none⟩ = some (.int .i64 h)) (hx : W.cell? ⟨L, 0, none⟩ = some (.int .i64 x)) (hy : W.cell? ⟨L, 1, none⟩ = some (.int .i64 y)) (hyl : W.cell? ⟨by', 0, none⟩ = some (.func (.yield l) #[] #[]))
    (hz0 : W.frozen? ⟨L, 0, none⟩ = false) (hz1 : W.frozen? ⟨L, 1, none⟩ = false) (hL : L < W.heap.size) (hby : by' < W.heap.size) (hd2 : by' ≠ L)
    (hY : YieldAt F (n - 1) Try.prog l #[.int .i64 na, .int .i64 nb] (((W.setCell ⟨L, 0, none⟩ (.int .i64 na)).setCell ⟨L, 1, none⟩ (.int .i64 nb)).alloc (.cells #[.int .i64 na, .int .i64 nb] 36)) R) (hr : ∀ e w', R e w' → ∃ v, e = .returned (.bool v)) (hn : 1 ≤ n) :
    CallsIn F n Try.prog 79 #[.int .i64 a, .int .i64 b, .pointer (some ⟨bh, 0, none⟩), .pointer (some ⟨L, 0, none⟩), .pointer (some ⟨by', 0, none⟩)] W R := by
  obtain ⟨fn, tmps, assign, body, hyy, hR⟩ := hY
  rcases ha with ⟨ha, rfl⟩ | ⟨ha, rfl⟩ <;> rcases hb with ⟨hb, rfl⟩ | ⟨hb, rfl⟩
  all_goals
    refine callsIn_of_wp Try.func79 rfl hf ?_ hro
    simp only [Try.ntmps79, List.size_toArray, List.length_cons, List.length_nil, Nat.reduceAdd, Nat.reduceSub, Array.replicate_succ, Array.replicate_zero, List.push_toArray, List.append_toArray, List.nil_append, List.cons_append]
    gi_wp2
    refine hR.mono ?_
    intro e w' hRe
    obtain ⟨v, rfl⟩ := hr e w' hRe
    dsimp only
    gi_wp2
    exact hRe

/-- the last pair that came -/
def lastP (pre : List (Int × Int)) : Int × Int := pre.getLast?.getD (-1, -1)
/-- a pair comes, if it is not the last one -/
def adjA (pre : List (Int × Int)) (p : Int × Int) : List (Int × Int) := if lastP pre = p then pre else pre ++ [p]
theorem adjA_last (pre : List (Int × Int)) (p : Int × Int) : lastP (adjA pre p) = p := by
  unfold adjA; split
  · assumption
  · simp [lastP]
def adj (l : List (Int × Int)) : List (Int × Int) := l.foldl adjA []
theorem adj_snoc (l : List (Int × Int)) (p : Int × Int) : adj (l ++ [p]) = adjA (adj l) p := by simp [adj]
theorem adjA_pre (pre : List (Int × Int)) (p : Int × Int) : pre <+: adjA pre p := by
  unfold adjA; split
  · exact List.prefix_refl _
  · exact List.prefix_append _ _
theorem adj_pre (l r : List (Int × Int)) : adj l <+: adj (l ++ r) := by
  induction r generalizing l with
  | nil => simp
  | cons p r ih =>
    have h1 := adjA_pre (adj l) p
    rw [← adj_snoc] at h1
    have h2 := ih (l ++ [p])
    simp only [List.append_assoc, List.cons_append, List.nil_append] at h2
    exact h1.trans h2

/-- the boxes of the iterator, and what they hold -/
structure It (bo bh bg br bY L l : Nat) (h c r x y : Int) (W : World) : Prop where
  bo_lt : bo < W.heap.size
  bh_lt : bh < W.heap.size
  bg_lt : bg < W.heap.size
  br_lt : br < W.heap.size
  bY_lt : bY < W.heap.size
  L_lt : L < W.heap.size
  bhv : W.cell? ⟨bh, 0, none⟩ = some (.int .i64 h)
  bgv : W.cell? ⟨bg, 0, none⟩ = some (.int .i64 c)
  brv : W.cell? ⟨br, 0, none⟩ = some (.int .i64 r)
  bYv : W.cell? ⟨bY, 0, none⟩ = some (.func (.yield l) #[] #[])
  l0 : W.cell? ⟨L, 0, none⟩ = some (.int .i64 x)
  l1 : W.cell? ⟨L, 1, none⟩ = some (.int .i64 y)
  z0 : W.frozen? ⟨L, 0, none⟩ = false
  z1 : W.frozen? ⟨L, 1, none⟩ = false
  fh : Free bo W bh
  fg : Free bo W bg
  fr : Free bo W br
  fY : Free bo W bY
  fL : Free bo W L

theorem It.harb {bo bh bg br bY L l : Nat} {h c r x y : Int} {W W' : World} {D : Nat → Prop} (t : It bo bh bg br bY L l h c r x y W) (hh : Harb D bo W W') (d1 : D bh) (d2 : D bg) (d3 : D br) (d4 : D bY) (d5 : D L) :
    It bo bh bg br bY L l h c r x y W' := by
  obtain ⟨e1, f1⟩ := hh.same bh d1 t.bh_lt t.fh
  obtain ⟨e2, f2⟩ := hh.same bg d2 t.bg_lt t.fg
  obtain ⟨e3, f3⟩ := hh.same br d3 t.br_lt t.fr
  obtain ⟨e4, f4⟩ := hh.same bY d4 t.bY_lt t.fY
  obtain ⟨e5, f5⟩ := hh.same L d5 t.L_lt t.fL
  have hs := hh.size
  exact ⟨Nat.lt_of_lt_of_le t.bo_lt hs, Nat.lt_of_lt_of_le t.bh_lt hs, Nat.lt_of_lt_of_le t.bg_lt hs, Nat.lt_of_lt_of_le t.br_lt hs, Nat.lt_of_lt_of_le t.bY_lt hs, Nat.lt_of_lt_of_le t.L_lt hs,
    (World.cell?_of_block (a := ⟨bh, 0, none⟩) e1).trans t.bhv, (World.cell?_of_block (a := ⟨bg, 0, none⟩) e2).trans t.bgv, (World.cell?_of_block (a := ⟨br, 0, none⟩) e3).trans t.brv, (World.cell?_of_block (a := ⟨bY, 0, none⟩) e4).trans t.bYv,
    (World.cell?_of_block (a := ⟨L, 0, none⟩) e5).trans t.l0, (World.cell?_of_block (a := ⟨L, 1, none⟩) e5).trans t.l1, (World.frozen?_of_block (a := ⟨L, 0, none⟩) e5).trans t.z0, (World.frozen?_of_block (a := ⟨L, 1, none⟩) e5).trans t.z1, f1, f2, f3, f4, f5⟩

theorem Harb.alloc (D : Nat → Prop) {bo : Nat} {W : World} (h : bo < W.heap.size) (o : Obj) : Harb D bo W (W.alloc o) :=
  ⟨by simp, fun k _ hk hf => ⟨Below.heap_alloc W o k hk, hf.grown (World.grownBy_alloc W o none) h (by simp)⟩⟩
theorem Harb.setCell (D : Nat → Prop) {bo b i : Nat} {W : World} (h : bo < W.heap.size) (hb : b ≠ bo) (hD : ¬ D b) (v : Value) : Harb D bo W (W.setCell ⟨b, i, none⟩ v) :=
  ⟨(KeepsWalks.setCell W _ v).size, fun k hk _ hf => ⟨Below.heap_setCell _ _ _ k (fun e => hD (by simp at e; rw [← e]; exact hk)),
    hf.grown (row := some b) ⟨rfl, rfl, rfl, (KeepsWalks.setCell W _ v).size, fun k _ hk => Below.heap_setCell _ _ _ k (fun e => hk (by rw [e]))⟩ h (fun e => hb (by cases e; rfl))⟩⟩

end Go.Proofs.Ytjmggphnngffjaa
