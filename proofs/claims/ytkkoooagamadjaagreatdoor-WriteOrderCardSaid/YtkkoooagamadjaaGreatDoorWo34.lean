/- A zone that came in, opened. num.Gap. zone.Of: the appends to a zone in a box. -/
import Derived.Test.YtkkoooagamadjaaGreatDoorWo11
import Derived.Deep.Slices
import Derived.ChangeArms
import Derived.OpenShut
import Derived.Test.YtkkoooagamadjaaGreatDoorWo09
import Derived.Test.YtkkoooagamadjaaGreatDoorWo33
import Derived.Test.YtkkoooagamadjaaGreatDoorWo13

namespace Go.Proofs.YtkkoooagamadjaaGreatDoor
open Go.RowKit Go.ChangeShapes Go.WideShapes Go.Deep

section
variable {H : Type} {enc : TypeId × Value → H} {w : World} {base : Nat} {sp : Nat → Bool} {hd : Bool}

theorem celz_int : Tryz.prog.cellsOf 3 = 1 := by kernel_rfl
theorem celz_cls : Tryz.prog.cellsOf 47 = 2 := by kernel_rfl
theorem celz_zone : Tryz.prog.cellsOf 28 = 2 := by kernel_rfl
theorem celz_cs : Tryz.prog.cellsOf 25 = 1 := by kernel_rfl
theorem celz_is : Tryz.prog.cellsOf 26 = 1 := by kernel_rfl

def In64 (x : Int) : Prop := -9223372036854775808 ≤ x ∧ x ≤ 9223372036854775807
def ClsOK (c : Int × Int) : Prop := In64 c.1 ∧ In64 c.2

set_option maxRecDepth 100000 in
theorem opz_cls {fuel : Nat} {cs : List Value} {x : DataW H × List MemPlace} (h : DataW.trod enc Tryz.prog w base sp hd fuel 47 cs = some x) : ∃ c : Int × Int, cs = [.int .i64 c.1, .int .i64 c.2] ∧ ClsOK c := by
  obtain ⟨xs, n, _, _, hlen, hxl, hf⟩ := DataW.trod_struct Tryz.underlying47 h
  rw [celz_cls] at hlen
  match cs, hlen with
  | [v0, v1], _ =>
    have hx0 := List.getElem?_eq_getElem (show 0 < xs.length by rw [hxl]; decide)
    have hx1 := List.getElem?_eq_getElem (show 1 < xs.length by rw [hxl]; decide)
    have g0 : DataW.trod enc Tryz.prog w base sp hd n 3 (([v0, v1].drop 0).take (Tryz.prog.cellsOf 3)) = xs[0]? := hf 0 _ rfl
    have g1 : DataW.trod enc Tryz.prog w base sp hd n 3 (([v0, v1].drop 1).take (Tryz.prog.cellsOf 3)) = xs[1]? := hf 1 _ rfl
    rw [hx0] at g0; rw [hx1] at g1
    simp only [celz_int, List.drop, List.take] at g0 g1
    obtain ⟨a, e0, _, w0⟩ := DataW.trod_int Tryz.underlying3 g0
    obtain ⟨b, e1, _, w1⟩ := DataW.trod_int Tryz.underlying3 g1
    simp only [List.cons.injEq, and_true] at e0 e1
    exact ⟨(a, b), by rw [e0, e1], bounds_i64 w0, bounds_i64 w1⟩

set_option maxRecDepth 100000 in
theorem opz_cs {fuel : Nat} {ad : Option Addr} {n cap : Nat} {x : DataW H × List MemPlace} (h : DataW.trod enc Tryz.prog w base sp hd fuel 25 [.slice ad n cap] = some x) :
    ∃ T : List (Int × Int), T.length = n ∧ RdK w 2 (.slice ad n cap) n (cellsP T) ∧ n ≤ cap ∧ ∀ y ∈ T, ClsOK y := by
  rcases open_slice Tryz.underlying25 h with ⟨he, _⟩ | ⟨a, len, c, m, k, D, Pl, he, hb, hl, hm, hmm, hx, hall⟩
  · simp only [List.cons.injEq, Value.slice.injEq, and_true] at he
    obtain ⟨rfl, rfl, rfl⟩ := he
    exact ⟨[], rfl, ⟨none, 0, rfl, rfl, .inl rfl⟩, Nat.le_refl _, fun y hy => by cases hy⟩
  · simp only [List.cons.injEq, Value.slice.injEq, and_true] at he
    obtain ⟨rfl, rfl, rfl⟩ := he
    have hnm : n ≤ m := by rw [hmm]; split <;> omega
    have each : ∀ i, i < n → ∃ t : Int × Int, ClsOK t ∧ w.cell? (a.add (i * 2)) = some (.int .i64 t.1) ∧ w.cell? (a.add (i * 2 + 1)) = some (.int .i64 t.2) := by
      intro i hi
      obtain ⟨cs, h1, h2⟩ := hall i (by omega)
      rw [celz_cls] at h1
      obtain ⟨t, rfl, hnum⟩ := opz_cls h2
      obtain ⟨_, hlen, hcell⟩ := World.cells?_some h1
      refine ⟨t, hnum, ?_, ?_⟩
      · have := hcell 0 (by decide)
        rw [add_add] at this
        exact this
      · have := hcell 1 (by decide)
        rw [add_add] at this
        exact this
    obtain ⟨t, ht⟩ := choose_lt each
    by_cases h0 : n = 0
    · subst h0
      exact ⟨[], rfl, ⟨_, cap, rfl, rfl, .inl rfl⟩, hl, fun y hy => by cases hy⟩
    have hz := (ht 0 (by omega)).2.1
    obtain ⟨b, off, spot⟩ := a
    have hspot : spot = none := by simpa [Addr.add] using World.cell?_spot hz
    subst hspot
    have hadd : ∀ i, (⟨b, off, none⟩ : Addr).add i = ⟨b, off + i, none⟩ := fun i => by unfold Addr.add; split <;> simp_all
    refine ⟨(List.range n).map t, by simp, ⟨_, cap, rfl, by rw [cellsP_len]; simp, .inr ⟨b, off, rfl, World.block_lt_of_cell? w _ (by rw [hadd] at hz; exact hz), fun j y hy => ?_⟩⟩, hl, ?_⟩
    · have hj := (List.getElem?_eq_some_iff.1 hy).1
      rw [cellsP_len, List.length_map, List.length_range] at hj
      obtain ⟨i, hi, e⟩ : ∃ i, i < n ∧ (j = i * 2 ∨ j = i * 2 + 1) := ⟨j / 2, by omega, by omega⟩
      have hg : ((List.range n).map t)[i]? = some ((t i).1, (t i).2) := by simp [hi]
      obtain ⟨q1, q2⟩ := cellsP_get _ _ _ hg
      obtain ⟨_, e1, e2⟩ := ht i hi
      rw [hadd] at e1 e2
      rcases e with rfl | rfl
      · exact e1.trans (q1.symm.trans hy)
      · exact e2.trans (q2.symm.trans hy)
    · intro y hy
      obtain ⟨i, hi, rfl⟩ := List.mem_map.1 hy
      exact (ht i (by simpa using hi)).1

set_option maxRecDepth 100000 in
theorem opz_is {fuel : Nat} {ad : Option Addr} {n cap : Nat} {x : DataW H × List MemPlace} (h : DataW.trod enc Tryz.prog w base sp hd fuel 26 [.slice ad n cap] = some x) :
    ∃ T : List Int, T.length = n ∧ RdK w 1 (.slice ad n cap) n (ints T) ∧ ∀ y ∈ T, In64 y := by
  rcases open_slice Tryz.underlying26 h with ⟨he, _⟩ | ⟨a, len, c, m, k, D, Pl, he, hb, hl, hm, hmm, hx, hall⟩
  · simp only [List.cons.injEq, Value.slice.injEq, and_true] at he
    obtain ⟨rfl, rfl, rfl⟩ := he
    exact ⟨[], rfl, ⟨none, 0, rfl, rfl, .inl rfl⟩, fun y hy => by cases hy⟩
  · simp only [List.cons.injEq, Value.slice.injEq, and_true] at he
    obtain ⟨rfl, rfl, rfl⟩ := he
    have hnm : n ≤ m := by rw [hmm]; split <;> omega
    have each : ∀ i, i < n → ∃ t : Int, In64 t ∧ w.cell? (a.add i) = some (.int .i64 t) := by
      intro i hi
      obtain ⟨cs, h1, h2⟩ := hall i (by omega)
      rw [celz_int] at h1
      obtain ⟨t, rfl, _, wf⟩ := DataW.trod_int Tryz.underlying3 h2
      obtain ⟨_, hlen, hcell⟩ := World.cells?_some h1
      have := hcell 0 (by decide)
      rw [Nat.mul_one] at this
      refine ⟨t, bounds_i64 wf, ?_⟩
      rw [show (a.add i).add 0 = a.add i by rw [add_add, Nat.add_zero]] at this
      exact this
    obtain ⟨t, ht⟩ := choose_lt each
    by_cases h0 : n = 0
    · subst h0
      exact ⟨[], rfl, ⟨_, cap, rfl, rfl, .inl rfl⟩, fun y hy => by cases hy⟩
    have hz := (ht 0 (by omega)).2
    obtain ⟨b, off, spot⟩ := a
    have hspot : spot = none := by simpa [Addr.add] using World.cell?_spot hz
    subst hspot
    have hadd : ∀ i, (⟨b, off, none⟩ : Addr).add i = ⟨b, off + i, none⟩ := fun i => by unfold Addr.add; split <;> simp_all
    refine ⟨(List.range n).map t, by simp, ⟨_, cap, rfl, by simp [ints], .inr ⟨b, off, rfl, World.block_lt_of_cell? w _ (by rw [hadd] at hz; exact hz), fun j y hy => ?_⟩⟩, ?_⟩
    · have hi : j < n := by have := (List.getElem?_eq_some_iff.1 hy).1; simpa [ints] using this
      have e := (ht j hi).2
      rw [hadd] at e
      simp [ints, hi] at hy
      rw [e, hy]
    · intro y hy
      obtain ⟨i, hi, rfl⟩ := List.mem_map.1 hy
      exact (ht i (by simpa using hi)).1

set_option maxRecDepth 100000 in
/-- a zone that came in -/
theorem open_zone {fuel : Nat} {cs : List Value} {x : DataW H × List MemPlace} (h : DataW.trod enc Tryz.prog w base sp hd fuel 28 cs = some x) :
    ∃ v1 v2 cl gl, cs = [v1, v2] ∧ ZoneIn w v1 v2 cl gl ∧ (∀ ad n c, v1 = .slice ad n c → n ≤ c) ∧ (∀ c ∈ cl, ClsOK c) ∧ ∀ g ∈ gl, In64 g := by
  obtain ⟨xs, n, _, _, hlen, hxl, hf⟩ := DataW.trod_struct Tryz.underlying28 h
  rw [celz_zone] at hlen
  match cs, hlen with
  | [v0, v1], _ =>
    have hx0 := List.getElem?_eq_getElem (show 0 < xs.length by rw [hxl]; decide)
    have hx1 := List.getElem?_eq_getElem (show 1 < xs.length by rw [hxl]; decide)
    have g0 : DataW.trod enc Tryz.prog w base sp hd n 25 (([v0, v1].drop 0).take (Tryz.prog.cellsOf 25)) = xs[0]? := hf 0 _ rfl
    have g1 : DataW.trod enc Tryz.prog w base sp hd n 26 (([v0, v1].drop 1).take (Tryz.prog.cellsOf 26)) = xs[1]? := hf 1 _ rfl
    rw [hx0] at g0; rw [hx1] at g1
    simp only [celz_cs, celz_is, List.drop, List.take] at g0 g1
    have f0 : ∃ ad n cap, v0 = .slice ad n cap := by
      rcases open_slice Tryz.underlying25 g0 with ⟨he, _⟩ | ⟨a, len, c, m, k, D, Pl, he, _⟩
      · simp only [List.cons.injEq, and_true] at he; exact ⟨_, _, _, he⟩
      · simp only [List.cons.injEq, and_true] at he; exact ⟨_, _, _, he⟩
    have f1 : ∃ ad n cap, v1 = .slice ad n cap := by
      rcases open_slice Tryz.underlying26 g1 with ⟨he, _⟩ | ⟨a, len, c, m, k, D, Pl, he, _⟩
      · simp only [List.cons.injEq, and_true] at he; exact ⟨_, _, _, he⟩
      · simp only [List.cons.injEq, and_true] at he; exact ⟨_, _, _, he⟩
    obtain ⟨ad0, n0, cap0, rfl⟩ := f0
    obtain ⟨ad1, n1, cap1, rfl⟩ := f1
    obtain ⟨cl, hl0, r0, hc0, hb0⟩ := opz_cs g0
    obtain ⟨gl, hl1, r1, hb1⟩ := opz_is g1
    exact ⟨_, _, cl, gl, rfl, ⟨by rw [hl0]; exact r0, by rw [hl1]; exact r1⟩, fun ad n c e => by cases e; exact hc0, hb0, hb1⟩
end
end Go.Proofs.YtkkoooagamadjaaGreatDoor

namespace Go.Proofs.YtkkoooagamadjaaGreatDoor
open Go.RowKit

set_option maxHeartbeats 1000000 in
theorem gap_any (a b : Int) (m : Nat) (w : World) (ha : In64 a) (hb : In64 b) (hm : m ≤ 2097151) :
    Calls Tryz.prog 18 #[.int .i64 a, .int .i64 b, .int .i64 m] w fun e w' => e = .returned (.int .i64 (gapZ a b m)) ∧ w = w' := by
  unfold In64 at ha hb
  go_enter Tryz.func18, Tryz.ntmps18
  by_cases h0 : m = 0
  · subst h0
    have H : Hid (gapZ a b (0 : Nat) = 0) := by unfold Hid gapZ; omega
    go_wp2_with fail
    go_ret
    exact ⟨ret_int H.out.symm, rfl⟩
  · have p0 : ¬ (m : Int) ≤ 0 := by omega
    by_cases h1 : b ≤ a
    · have H : Hid (gapZ a b m = 0) := by unfold Hid gapZ; omega
      go_wp2_with fail
      go_ret
      exact ⟨ret_int H.out.symm, rfl⟩
    · obtain ⟨A, hA⟩ : ∃ A, IntKind.u64.wrap a = A := ⟨_, rfl⟩
      obtain ⟨B, hB⟩ : ∃ B, IntKind.u64.wrap b = B := ⟨_, rfl⟩
      obtain ⟨D, hD⟩ : ∃ D : Nat, b - a - 1 = D := ⟨(b - a - 1).toNat, by omega⟩
      have h2 : IntKind.u64.wrap (B - A) = ((D + 1 : Nat) : Int) := by
        rw [← hA, ← hB, IntKind.wrap_u64, IntKind.wrap_u64, IntKind.wrap_u64]; omega
      have h3 : IntKind.u64.wrap (((D + 1 : Nat) : Int) - 1) = (D : Int) := by rw [IntKind.wrap_u64]; omega
      have h4 : IntKind.u64.wrap (m : Int) = (m : Int) := by rw [IntKind.wrap_u64]; omega
      obtain ⟨E, hE⟩ : ∃ E : Nat, D + 1 = E := ⟨_, rfl⟩
      rw [hE] at h2 h3
      have HE := Lib.hid hE
      by_cases hle : D ≤ m
      · have H : Hid (gapZ a b m = (D : Int)) := by unfold Hid gapZ; omega
        have hle1 : (D : Int) ≤ (m : Int) := by omega
        have hle2 : ¬ (m : Int) < (D : Int) := by omega
        have hw : IntKind.i64.wrap (D : Int) = (D : Int) := by rw [IntKind.wrap_i64]; omega
        clear hD hE hle
        go_wp2_with fail
        go_ret
        exact ⟨ret_int (by have := H.out; omega), rfl⟩
      · have H : Hid (gapZ a b m = (m : Int)) := by unfold Hid gapZ; omega
        have hle1 : (m : Int) < (D : Int) := by omega
        have hw : IntKind.i64.wrap (m : Int) = (m : Int) := by rw [IntKind.wrap_i64]; omega
        clear hD hE hle
        go_wp2_with fail
        go_ret
        exact ⟨ret_int (by have := H.out; omega), rfl⟩

end Go.Proofs.YtkkoooagamadjaaGreatDoor

namespace Go.Proofs.YtkkoooagamadjaaGreatDoor
open Go.RowKit

/-- a zone in a box of its own, while it is built -/
structure ZQ (w3 : World) (B9 : Nat) (cl : List (Int × Int)) (gl : List Int) (W : World) : Prop where
  ex : ∃ u1 u2, Blk W B9 #[u1, u2] 28 ∧ ZoneAt W w3.heap.size u1 u2 cl gl
  grown : w3.grownBy W (some B9)

theorem grown_put9 {w3 W : World} {B9 j : Nat} (h : w3.grownBy W (some B9)) (u : Value) : w3.grownBy (W.setCell ⟨B9, j, none⟩ u) (some B9) :=
  ⟨h.os, h.tape, h.output, Nat.le_trans h.size (by simp [World.setCell]), fun q hq hne => (Below.heap_setCell _ _ _ _ (by intro e; exact hne (by rw [e]))).trans (h.block q hq hne)⟩

theorem ZQ.gap {w3 W : World} {B9 B4 : Nat} {cl : List (Int × Int)} {gl : List Int} {pcs : Array Value} {u1 u2 : Value} (bx : Blk W B9 #[u1, u2] 28) (zo : ZoneAt W w3.heap.size u1 u2 cl gl) (hg : w3.grownBy W (some B9)) (pt : Blk W B4 pcs 51) (hl : gl.length ≤ 1000) (g : Int) (h49 : B4 ≠ B9) (ty : TypeId) :
    ∃ x y w5, (Builtin.append_ #[26, 26] ty #[u2, .slice (some ⟨W.heap.size, 0, none⟩) 1 1]).run Tryz.prog (W.alloc (.cells #[.int .i64 g] 3)) = .ok (.slice x (gl.length + 1) y) w5
      ∧ Blk w5 B9 #[u1, u2] 28
      ∧ Blk (w5.setCell ⟨B9, 1, none⟩ (.slice x (gl.length + 1) y)) B9 #[u1, .slice x (gl.length + 1) y] 28
      ∧ ZoneAt (w5.setCell ⟨B9, 1, none⟩ (.slice x (gl.length + 1) y)) w3.heap.size u1 (.slice x (gl.length + 1) y) cl (gl ++ [g])
      ∧ w3.grownBy (w5.setCell ⟨B9, 1, none⟩ (.slice x (gl.length + 1) y)) (some B9)
      ∧ Blk (w5.setCell ⟨B9, 1, none⟩ (.slice x (gl.length + 1) y)) B4 pcs 51 := by
  have hba : Below W.heap.size W (W.alloc (.cells #[.int .i64 g] 3)) := (Below.refl _ W).alloc (Nat.le_refl _) _
  have z1 := zo.below hba
  have b1 := bx.alloc (.cells #[.int .i64 g] 3)
  have p1 := pt.alloc (.cells #[.int .i64 g] 3)
  have hrd : RdK (W.alloc (.cells #[.int .i64 g] 3)) 1 (.slice (some ⟨W.heap.size, 0, none⟩) 1 1) 1 (ints [g]) := by
    refine ⟨_, _, rfl, rfl, .inr ⟨W.heap.size, 0, rfl, by simp, fun t x hx => ?_⟩⟩
    rw [World.cell?_alloc_at _ _ _ _ (by simp), Nat.zero_add]
    simpa [ints] using hx
  have hbs : w3.heap.size ≤ (W.alloc (.cells #[.int .i64 g] 3)).heap.size := Nat.le_trans hg.size hba.size
  obtain ⟨v', w', hrun, ho, hgr⟩ := appK_run (P := Tryz.prog) _ 26 ty 3 (.int .i64 0) 1 8 w3.heap.size Tryz.underlying26 info_int' rfl (by decide) (by decide) u2 gl.length (ints gl) z1.2 _ 1 (ints [g]) hrd (ints_one _) (by omega) hbs
  obtain ⟨x, y, rfl⟩ := owns_len ho
  have r9 := b1.row_ne z1.2 (by decide)
  have r4 := p1.row_ne z1.2 (by decide)
  have b5 := b1.grown hgr r9
  have p5 := p1.grown hgr r4
  have oc5 := owns_beside z1.2 z1.1 (by decide) hgr
  refine ⟨x, y, w', hrun, b5, b5.store 1 _, ⟨?_, ?_⟩, ?_, p5.other h49 _⟩
  · exact ownsRow_setCell_other oc5 (a := ⟨B9, 1, none⟩) (b5.row_ne oc5 (by decide)) _
  · rw [show ints (gl ++ [g]) = ints gl ++ ints [g] by simp [ints], List.length_append]
    exact ownsRow_setCell_other ho (a := ⟨B9, 1, none⟩) (b5.row_ne ho (by decide)) _
  · exact grown_put9 (grown_then_below (grown_then_below hg (hba.mono hg.size)) (below_of_grown hgr (fun k e => (z1.2.lt k e).1) hbs)) _

theorem ZQ.cls {w3 W : World} {B9 : Nat} {cl : List (Int × Int)} {gl : List Int} {u1 u2 : Value} (bx : Blk W B9 #[u1, u2] 28) (zo : ZoneAt W w3.heap.size u1 u2 cl gl) (hg : w3.grownBy W (some B9)) (hl : cl.length ≤ 1000) (a c : Int) (ty : TypeId) :
    ∃ x y w5, (Builtin.append_ #[25, 25] ty #[u1, .slice (some ⟨W.heap.size, 0, none⟩) 1 1]).run Tryz.prog (W.alloc (.cells #[.int .i64 a, .int .i64 c] 47)) = .ok (.slice x (cl.length + 1) y) w5
      ∧ Blk w5 B9 #[u1, u2] 28
      ∧ ZQ w3 B9 (cl ++ [(a, c)]) gl (w5.setCell ⟨B9, 0, none⟩ (.slice x (cl.length + 1) y)) := by
  have hba : Below W.heap.size W (W.alloc (.cells #[.int .i64 a, .int .i64 c] 47)) := (Below.refl _ W).alloc (Nat.le_refl _) _
  have z1 := zo.below hba
  have b1 := bx.alloc (.cells #[.int .i64 a, .int .i64 c] 47)
  have hrd : RdK (W.alloc (.cells #[.int .i64 a, .int .i64 c] 47)) 2 (.slice (some ⟨W.heap.size, 0, none⟩) 1 1) 1 (cellsP [(a, c)]) := by
    refine ⟨_, _, rfl, rfl, .inr ⟨W.heap.size, 0, rfl, by simp, fun t x hx => ?_⟩⟩
    rw [World.cell?_alloc_at _ _ _ _ (by simp), Nat.zero_add, ← Array.getElem?_toList]
    simpa [cellsP] using hx
  have hbs : w3.heap.size ≤ (W.alloc (.cells #[.int .i64 a, .int .i64 c] 47)).heap.size := Nat.le_trans hg.size hba.size
  obtain ⟨v', w', hrun, ho, hgr⟩ := appK_run (P := Tryz.prog) _ 25 ty 47 (.agg #[.int .i64 0, .int .i64 0]) 2 16 w3.heap.size Tryz.underlying25 info_class rfl (by decide) (by decide) u1 cl.length (cellsP cl) z1.1 _ 1 (cellsP [(a, c)]) hrd (cellsP_one _) (by omega) hbs
  obtain ⟨x, y, rfl⟩ := owns_len ho
  have b5 := b1.grown hgr (b1.row_ne z1.1 (by decide))
  have og5 := owns_beside z1.1 z1.2 (by decide) hgr
  refine ⟨x, y, w', hrun, b5, ⟨_, u2, b5.store 0 _, ?_, ?_⟩, ?_⟩
  · rw [show cellsP (cl ++ [(a, c)]) = cellsP cl ++ cellsP [(a, c)] by simp [cellsP], List.length_append]
    exact ownsRow_setCell_other ho (a := ⟨B9, 0, none⟩) (b5.row_ne ho (by decide)) _
  · exact ownsRow_setCell_other og5 (a := ⟨B9, 0, none⟩) (b5.row_ne og5 (by decide)) _
  · exact grown_put9 (grown_then_below (grown_then_below hg (hba.mono hg.size)) (below_of_grown hgr (fun k e => (z1.1.lt k e).1) hbs)) _

theorem pnt_cls (vals consts : List Int) (r : Int) : (pntZ vals consts).map (·.2) = (ofZ vals consts r).1 := by
  unfold pntZ ofZ zoneZ
  rw [List.map_map]
  rfl
theorem pnt_gap (vals consts : List Int) (r : Int) : gapsZ (kap r) ((pntZ vals consts).map (·.1)) = (ofZ vals consts r).2 := by
  unfold pntZ ofZ zoneZ
  rw [List.map_map]
  have e : ((fun p : Pt => p.1) ∘ fun y => ((y, clsZ (pZ vals) vals.length (sortS consts) y) : Pt)) = id := rfl
  rw [e, List.map_id]
theorem pnt_len (vals consts : List Int) : (pntZ vals consts).length ≤ vals.length + consts.length := by
  unfold pntZ
  have := sortS_len (vals ++ consts)
  simpa using this
theorem pnt_in (vals consts : List Int) (p : Pt) (h : p ∈ pntZ vals consts) : p.1 ∈ vals ++ consts := by
  unfold pntZ at h
  obtain ⟨y, hy, rfl⟩ := List.mem_map.1 h
  exact ((sortS_ok _).2 y).1 hy
/-- gaps that are put already, and noughts -/
def gapK (gs : List Int) (k : Nat) : List Int := gs.take k ++ List.replicate (gs.length - k) 0
theorem gapK_len (gs : List Int) (k : Nat) (hk : k ≤ gs.length) : (gapK gs k).length = gs.length := by simp [gapK]; omega
theorem gapK_set (gs : List Int) (k : Nat) (g : Int) (h : gs[k]? = some g) : (gapK gs k).set k g = gapK gs (k + 1) := by
  obtain ⟨hk, rfl⟩ := List.getElem?_eq_some_iff.1 h
  unfold gapK
  rw [List.set_append_right _ _ (by rw [List.length_take]; omega), List.length_take, Nat.min_eq_left (by omega), Nat.sub_self, show gs.length - k = (gs.length - (k + 1)) + 1 by omega, List.replicate_succ, List.set_cons_zero, List.take_succ_eq_append_getElem hk, List.append_assoc]
  rfl
theorem gapK_all (gs : List Int) : gapK gs gs.length = gs := by simp [gapK]
theorem gapsZ_at (c : Int) : ∀ (l : List Int) (k : Nat) (a b : Int), l[k]? = some a → l[k + 1]? = some b → (gapsZ c l)[k]? = some (gapZ a b c)
  | [], _, _, _, h, _ => by simp at h
  | [x], k, a, b, _, h => by simp at h
  | x :: y :: l, 0, a, b, h1, h2 => by
    simp only [List.getElem?_cons_zero, Option.some.injEq, Nat.zero_add, List.getElem?_cons_succ] at h1 h2
    subst h1; subst h2; rfl
  | x :: y :: l, k + 1, a, b, h1, h2 => by
    simp only [List.getElem?_cons_succ] at h1 h2
    show (gapZ x y c :: gapsZ c (y :: l))[k + 1]? = _
    rw [List.getElem?_cons_succ]
    exact gapsZ_at c (y :: l) k a b h1 (by simpa using h2)

end Go.Proofs.YtkkoooagamadjaaGreatDoor
