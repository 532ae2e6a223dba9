/- A zone that came in, opened. -/
import Derived.Test.YtjmggphnngffjaaZIn
import Derived.Deep.Slices
import Derived.ChangeArms
import Derived.OpenShut
namespace Go.Proofs.Ytjmggphnngffjaa
open Go.RowKit Go.ChangeShapes Go.WideShapes Go.Deep

section
variable {H : Type} {enc : TypeId × Value → H} {w : World} {base : Nat} {sp : Nat → Bool} {hd : Bool}

theorem celz_int : Try.prog.cellsOf 3 = 1 := by kernel_rfl
theorem celz_cls : Try.prog.cellsOf 63 = 2 := by kernel_rfl
theorem celz_zone : Try.prog.cellsOf 45 = 2 := by kernel_rfl
theorem celz_cs : Try.prog.cellsOf 43 = 1 := by kernel_rfl
theorem celz_is : Try.prog.cellsOf 39 = 1 := by kernel_rfl

def In64 (x : Int) : Prop := -9223372036854775808 ≤ x ∧ x ≤ 9223372036854775807
def ClsOK (c : Int × Int) : Prop := In64 c.1 ∧ In64 c.2

set_option maxRecDepth 100000 in
theorem opz_cls {fuel : Nat} {cs : List Value} {x : DataW H × List MemPlace} (h : DataW.trod enc Try.prog w base sp hd fuel 63 cs = some x) : ∃ c : Int × Int, cs = [.int .i64 c.1, .int .i64 c.2] ∧ ClsOK c := by
  obtain ⟨xs, n, _, _, hlen, hxl, hf⟩ := DataW.trod_struct Try.underlying63 h
  rw [celz_cls] at hlen
  match cs, hlen with
  | [v0, v1], _ =>
    have hx0 := List.getElem?_eq_getElem (show 0 < xs.length by rw [hxl]; decide)
    have hx1 := List.getElem?_eq_getElem (show 1 < xs.length by rw [hxl]; decide)
    have g0 : DataW.trod enc Try.prog w base sp hd n 3 (([v0, v1].drop 0).take (Try.prog.cellsOf 3)) = xs[0]? := hf 0 _ rfl
    have g1 : DataW.trod enc Try.prog w base sp hd n 3 (([v0, v1].drop 1).take (Try.prog.cellsOf 3)) = xs[1]? := hf 1 _ rfl
    rw [hx0] at g0; rw [hx1] at g1
    simp only [celz_int, List.drop, List.take] at g0 g1
    obtain ⟨a, e0, _, w0⟩ := DataW.trod_int Try.underlying3 g0
    obtain ⟨b, e1, _, w1⟩ := DataW.trod_int Try.underlying3 g1
    simp only [List.cons.injEq, and_true] at e0 e1
    exact ⟨(a, b), by rw [e0, e1], bounds_i64 w0, bounds_i64 w1⟩

set_option maxRecDepth 100000 in
theorem opz_cs {fuel : Nat} {ad : Option Addr} {n cap : Nat} {x : DataW H × List MemPlace} (h : DataW.trod enc Try.prog w base sp hd fuel 43 [.slice ad n cap] = some x) :
    ∃ T : List (Int × Int), T.length = n ∧ RdK w 2 (.slice ad n cap) n (cellsP T) ∧ n ≤ cap ∧ ∀ y ∈ T, ClsOK y := by
  rcases open_slice Try.underlying43 h with ⟨he, _⟩ | ⟨a, len, c, m, k, D, Pl, he, hb, hl, hm, hmm, hx, hall⟩
  · simp only [List.cons.injEq, Value.slice.injEq, and_true] at he
    obtain ⟨rfl, rfl, rfl⟩ := he
    exact ⟨[], rfl, ⟨none, 0, rfl, rfl, .inl rfl⟩, Nat.le_refl _, fun y hy => by cases hy⟩
  · simp only [List.cons.injEq, Value.slice.injEq, and_true] at he
    obtain ⟨rfl, rfl, rfl⟩ := he
    have hnm : n ≤ m := by rw [hmm]; split <;> omega
    have each : ∀ i, i < n → ∃ t : Int × Int, ClsOK t ∧ w.cell? (a.add (i * 2)) = some (.int .i64 t.1) ∧ w.cell? (a.add (i * 2 + 1)) = some (.int .i64 t.2) := by
      intro i hi
      obtain ⟨cs, h1, h2⟩ := hall i (by omega)
      rw [celz_cls] at h1
      obtain ⟨t, rfl, hnum⟩ := opz_cls h2
      obtain ⟨_, hlen, hcell⟩ := World.cells?_some h1
      refine ⟨t, hnum, ?_, ?_⟩
      · have := hcell 0 (by decide)
        rw [add_add] at this
        exact this
      · have := hcell 1 (by decide)
        rw [add_add] at this
        exact this
    obtain ⟨t, ht⟩ := choose_lt each
    by_cases h0 : n = 0
    · subst h0
      exact ⟨[], rfl, ⟨_, cap, rfl, rfl, .inl rfl⟩, hl, fun y hy => by cases hy⟩
    have hz := (ht 0 (by omega)).2.1
    obtain ⟨b, off, spot⟩ := a
    have hspot : spot = none := by simpa [Addr.add] using World.cell?_spot hz
    subst hspot
    have hadd : ∀ i, (⟨b, off, none⟩ : Addr).add i = ⟨b, off + i, none⟩ := fun i => by unfold Addr.add; split <;> simp_all
    refine ⟨(List.range n).map t, by simp, ⟨_, cap, rfl, by rw [cellsP_len]; simp, .inr ⟨b, off, rfl, World.block_lt_of_cell? w _ (by rw [hadd] at hz; exact hz), fun j y hy => ?_⟩⟩, hl, ?_⟩
    · have hj := (List.getElem?_eq_some_iff.1 hy).1
      rw [cellsP_len, List.length_map, List.length_range] at hj
      obtain ⟨i, hi, e⟩ : ∃ i, i < n ∧ (j = i * 2 ∨ j = i * 2 + 1) := ⟨j / 2, by omega, by omega⟩
      have hg : ((List.range n).map t)[i]? = some ((t i).1, (t i).2) := by simp [hi]
      obtain ⟨q1, q2⟩ := cellsP_get _ _ _ hg
      obtain ⟨_, e1, e2⟩ := ht i hi
      rw [hadd] at e1 e2
      rcases e with rfl | rfl
      · exact e1.trans (q1.symm.trans hy)
      · exact e2.trans (q2.symm.trans hy)
    · intro y hy
      obtain ⟨i, hi, rfl⟩ := List.mem_map.1 hy
      exact (ht i (by simpa using hi)).1

set_option maxRecDepth 100000 in
theorem opz_is {fuel : Nat} {ad : Option Addr} {n cap : Nat} {x : DataW H × List MemPlace} (h : DataW.trod enc Try.prog w base sp hd fuel 39 [.slice ad n cap] = some x) :
    ∃ T : List Int, T.length = n ∧ RdK w 1 (.slice ad n cap) n (ints T) ∧ ∀ y ∈ T, In64 y := by
  rcases open_slice Try.underlying39 h with ⟨he, _⟩ | ⟨a, len, c, m, k, D, Pl, he, hb, hl, hm, hmm, hx, hall⟩
  · simp only [List.cons.injEq, Value.slice.injEq, and_true] at he
    obtain ⟨rfl, rfl, rfl⟩ := he
    exact ⟨[], rfl, ⟨none, 0, rfl, rfl, .inl rfl⟩, fun y hy => by cases hy⟩
  · simp only [List.cons.injEq, Value.slice.injEq, and_true] at he
    obtain ⟨rfl, rfl, rfl⟩ := he
    have hnm : n ≤ m := by rw [hmm]; split <;> omega
    have each : ∀ i, i < n → ∃ t : Int, In64 t ∧ w.cell? (a.add i) = some (.int .i64 t) := by
      intro i hi
      obtain ⟨cs, h1, h2⟩ := hall i (by omega)
      rw [celz_int] at h1
      obtain ⟨t, rfl, _, wf⟩ := DataW.trod_int Try.underlying3 h2
      obtain ⟨_, hlen, hcell⟩ := World.cells?_some h1
      have := hcell 0 (by decide)
      rw [Nat.mul_one] at this
      refine ⟨t, bounds_i64 wf, ?_⟩
      rw [show (a.add i).add 0 = a.add i by rw [add_add, Nat.add_zero]] at this
      exact this
    obtain ⟨t, ht⟩ := choose_lt each
    by_cases h0 : n = 0
    · subst h0
      exact ⟨[], rfl, ⟨_, cap, rfl, rfl, .inl rfl⟩, fun y hy => by cases hy⟩
    have hz := (ht 0 (by omega)).2
    obtain ⟨b, off, spot⟩ := a
    have hspot : spot = none := by simpa [Addr.add] using World.cell?_spot hz
    subst hspot
    have hadd : ∀ i, (⟨b, off, none⟩ : Addr).add i = ⟨b, off + i, none⟩ := fun i => by unfold Addr.add; split <;> simp_all
    refine ⟨(List.range n).map t, by simp, ⟨_, cap, rfl, by simp [ints], .inr ⟨b, off, rfl, World.block_lt_of_cell? w _ (by rw [hadd] at hz; exact hz), fun j y hy => ?_⟩⟩, ?_⟩
    · have hi : j < n := by have := (List.getElem?_eq_some_iff.1 hy).1; simpa [ints] using this
      have e := (ht j hi).2
      rw [hadd] at e
      simp [ints, hi] at hy
      rw [e, hy]
    · intro y hy
      obtain ⟨i, hi, rfl⟩ := List.mem_map.1 hy
      exact (ht i (by simpa using hi)).1

set_option maxRecDepth 100000 in
/-- a zone that came in -/
theorem open_zone {fuel : Nat} {cs : List Value} {x : DataW H × List MemPlace} (h : DataW.trod enc Try.prog w base sp hd fuel 45 cs = some x) :
    ∃ v1 v2 cl gl, cs = [v1, v2] ∧ ZoneIn w v1 v2 cl gl ∧ (∀ ad n c, v1 = .slice ad n c → n ≤ c) ∧ (∀ c ∈ cl, ClsOK c) ∧ ∀ g ∈ gl, In64 g := by
  obtain ⟨xs, n, _, _, hlen, hxl, hf⟩ := DataW.trod_struct Try.underlying45 h
  rw [celz_zone] at hlen
  match cs, hlen with
  | [v0, v1], _ =>
    have hx0 := List.getElem?_eq_getElem (show 0 < xs.length by rw [hxl]; decide)
    have hx1 := List.getElem?_eq_getElem (show 1 < xs.length by rw [hxl]; decide)
    have g0 : DataW.trod enc Try.prog w base sp hd n 43 (([v0, v1].drop 0).take (Try.prog.cellsOf 43)) = xs[0]? := hf 0 _ rfl
    have g1 : DataW.trod enc Try.prog w base sp hd n 39 (([v0, v1].drop 1).take (Try.prog.cellsOf 39)) = xs[1]? := hf 1 _ rfl
    rw [hx0] at g0; rw [hx1] at g1
    simp only [celz_cs, celz_is, List.drop, List.take] at g0 g1
    have f0 : ∃ ad n cap, v0 = .slice ad n cap := by
      rcases open_slice Try.underlying43 g0 with ⟨he, _⟩ | ⟨a, len, c, m, k, D, Pl, he, _⟩
      · simp only [List.cons.injEq, and_true] at he; exact ⟨_, _, _, he⟩
      · simp only [List.cons.injEq, and_true] at he; exact ⟨_, _, _, he⟩
    have f1 : ∃ ad n cap, v1 = .slice ad n cap := by
      rcases open_slice Try.underlying39 g1 with ⟨he, _⟩ | ⟨a, len, c, m, k, D, Pl, he, _⟩
      · simp only [List.cons.injEq, and_true] at he; exact ⟨_, _, _, he⟩
      · simp only [List.cons.injEq, and_true] at he; exact ⟨_, _, _, he⟩
    obtain ⟨ad0, n0, cap0, rfl⟩ := f0
    obtain ⟨ad1, n1, cap1, rfl⟩ := f1
    obtain ⟨cl, hl0, r0, hc0, hb0⟩ := opz_cs g0
    obtain ⟨gl, hl1, r1, hb1⟩ := opz_is g1
    exact ⟨_, _, cl, gl, rfl, ⟨by rw [hl0]; exact r0, by rw [hl1]; exact r1⟩, fun ad n c e => by cases e; exact hc0, hb0, hb1⟩
end
end Go.Proofs.Ytjmggphnngffjaa
