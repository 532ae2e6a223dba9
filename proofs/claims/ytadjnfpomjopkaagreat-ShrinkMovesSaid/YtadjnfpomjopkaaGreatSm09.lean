/- Contract of warderref04.Exact, for two lists of the same items. A []Item that came in, opened: the items that it holds. -/
import Derived.Test.YtadjnfpomjopkaaGreatSm01
import Derived.Test.YtadjnfpomjopkaaGreatSm02
import Derived.Deep.Slices
import Derived.ChangeArms
import Derived.OpenShut

namespace Go.Proofs.YtadjnfpomjopkaaGreat
open Go.RowKit

/-- a slice that reads as items -/
def ItRow (w : World) (v : Value) (T : List It) : Prop := ∃ B, w.ownsRow B 103 9 v T.length (itFlat T)
theorem ItRow.keep {w w' : World} {v : Value} {T : List It} (h : ItRow w v T) (hb : Below w.heap.size w w') : ItRow w' v T := by
  obtain ⟨B, h⟩ := h; exact ⟨B, owns_below h hb⟩
theorem ItRow.drewN {w : World} {v : Value} {T : List It} (h : ItRow w v T) (n : Nat) : ItRow (w.drewN n) v T := h
theorem ItRow.alloc {w : World} {v : Value} {T : List It} (h : ItRow w v T) (o : Obj) : ItRow (w.alloc o) v T := h.keep ((Below.refl _ _).alloc (Nat.le_refl _) o)
theorem ItRow.len {w : World} {v : Value} {T : List It} (h : ItRow w v T) : ∃ ad cap, v = .slice ad T.length cap := by
  obtain ⟨B, h⟩ := h; exact owns_len h
theorem ItRow.at {w : World} {v : Value} {T : List It} (h : ItRow w v T) {k : Nat} {x : It} (hx : T[k]? = some x) :
    ∃ g cap, v = .slice (some ⟨g, 0, none⟩) T.length cap ∧ g < w.heap.size ∧ w.cell? ⟨g, k * 9, none⟩ = some (.int .i64 x.op) ∧ w.cell? ⟨g, k * 9 + 1, none⟩ = some (.string x.ln) ∧ w.cell? ⟨g, k * 9 + 2, none⟩ = some (.int .i64 x.lnum) ∧
      w.cell? ⟨g, k * 9 + 3, none⟩ = some (.string x.rn) ∧ w.cell? ⟨g, k * 9 + 4, none⟩ = some (.int .i64 x.rnum) ∧ w.cell? ⟨g, k * 9 + 5, none⟩ = some (.string x.name) ∧ w.cell? ⟨g, k * 9 + 6, none⟩ = some (.string x.user) ∧
      w.cell? ⟨g, k * 9 + 7, none⟩ = some (.int .i64 x.line) ∧ w.cell? ⟨g, k * 9 + 8, none⟩ = some (.int .i64 x.col) := by
  obtain ⟨B, h⟩ := h
  have hk := (List.getElem?_eq_some_iff.1 hx).1
  obtain ⟨g, cap, rfl, hg, hgs⟩ := owns_shape h (by omega)
  have c := fun j (hj : j < 9) => (World.ownsRow.cellAt h (k * 9 + j) (by omega)).trans (itFlat_get _ k j x hx hj)
  exact ⟨g, cap, rfl, hgs, c 0 (by omega), c 1 (by omega), c 2 (by omega), c 3 (by omega), c 4 (by omega), c 5 (by omega), c 6 (by omega), c 7 (by omega), c 8 (by omega)⟩

end Go.Proofs.YtadjnfpomjopkaaGreat

namespace Go.Proofs.YtadjnfpomjopkaaGreat
open Go.RowKit Go.ChangeShapes Go.WideShapes Go.Deep

/-- a slice of items, wherever it lies -/
def ItIn (w : World) (v : Value) (T : List It) : Prop :=
  ∃ ad cap, v = .slice ad T.length cap ∧ (T = [] ∨ ∃ g off, ad = some ⟨g, off, none⟩ ∧ g < w.heap.size ∧ ∀ (k : Nat) (x : It), T[k]? = some x → ∀ j, j < 9 → w.cell? ⟨g, off + k * 9 + j, none⟩ = (itCells x)[j]?)
theorem ItIn.keep {w w' : World} {v : Value} {T : List It} (h : ItIn w v T) (hb : Below w.heap.size w w') : ItIn w' v T := by
  obtain ⟨ad, cap, hv, h⟩ := h
  refine ⟨ad, cap, hv, ?_⟩
  rcases h with h | ⟨g, off, ha, hg, hc⟩
  · exact .inl h
  · exact .inr ⟨g, off, ha, Nat.lt_of_lt_of_le hg hb.size, fun k x hx j hj => (hb.cell (p := ⟨g, off + k * 9 + j, none⟩) hg).trans (hc k x hx j hj)⟩
theorem ItIn.of_row {w : World} {v : Value} {T : List It} (h : ItRow w v T) : ItIn w v T := by
  obtain ⟨B, h⟩ := h
  rcases h.2 with ⟨rfl, h0⟩ | ⟨g, cap, cur, rfl, hb, hg, _⟩
  · exact ⟨none, 0, by rw [h0], .inl (List.length_eq_zero_iff.1 h0)⟩
  · refine ⟨_, cap, rfl, .inr ⟨g, 0, rfl, (Array.getElem?_eq_some_iff.1 hg).1, fun k x hx j hj => ?_⟩⟩
    have hk := (List.getElem?_eq_some_iff.1 hx).1
    rw [Nat.zero_add, World.ownsRow.cellAt h (k * 9 + j) (by omega), itFlat_get T k j x hx hj]
theorem ItIn.len {w : World} {v : Value} {T : List It} (h : ItIn w v T) : ∃ ad cap, v = .slice ad T.length cap := by
  obtain ⟨ad, cap, hv, _⟩ := h; exact ⟨ad, cap, hv⟩
theorem ItIn.at {w : World} {v : Value} {T : List It} (h : ItIn w v T) {k : Nat} {x : It} (hx : T[k]? = some x) :
    ∃ g off cap, v = .slice (some ⟨g, off, none⟩) T.length cap ∧ g < w.heap.size ∧ w.cell? ⟨g, off + k * 9, none⟩ = some (.int .i64 x.op) ∧ w.cell? ⟨g, off + k * 9 + 1, none⟩ = some (.string x.ln) ∧ w.cell? ⟨g, off + k * 9 + 2, none⟩ = some (.int .i64 x.lnum) ∧
      w.cell? ⟨g, off + k * 9 + 3, none⟩ = some (.string x.rn) ∧ w.cell? ⟨g, off + k * 9 + 4, none⟩ = some (.int .i64 x.rnum) ∧ w.cell? ⟨g, off + k * 9 + 5, none⟩ = some (.string x.name) ∧ w.cell? ⟨g, off + k * 9 + 6, none⟩ = some (.string x.user) ∧
      w.cell? ⟨g, off + k * 9 + 7, none⟩ = some (.int .i64 x.line) ∧ w.cell? ⟨g, off + k * 9 + 8, none⟩ = some (.int .i64 x.col) := by
  obtain ⟨ad, cap, rfl, h⟩ := h
  rcases h with rfl | ⟨g, off, rfl, hg, hc⟩
  · simp at hx
  · have c := hc k x hx
    exact ⟨g, off, cap, rfl, hg, c 0 (by omega), c 1 (by omega), c 2 (by omega), c 3 (by omega), c 4 (by omega), c 5 (by omega), c 6 (by omega), c 7 (by omega), c 8 (by omega)⟩

section
variable {H : Type} {enc : TypeId × Value → H} {w : World} {base : Nat} {sp : Nat → Bool} {hd : Bool}

theorem celi_it : Tryz.prog.cellsOf 103 = 9 := by kernel_rfl
theorem celi_word : Tryz.prog.cellsOf 101 = 2 := by kernel_rfl
theorem celi_pos : Tryz.prog.cellsOf 60 = 2 := by kernel_rfl
theorem celi_int : Tryz.prog.cellsOf 3 = 1 := by kernel_rfl
theorem celi_i64 : Tryz.prog.cellsOf 2 = 1 := by kernel_rfl
theorem celi_str : Tryz.prog.cellsOf 9 = 1 := by kernel_rfl

set_option maxRecDepth 100000 in
theorem opi_pos {fuel : Nat} {cs : List Value} {x : DataW H × List MemPlace} (h : DataW.trod enc Tryz.prog w base sp hd fuel 60 cs = some x) : ∃ l c : Int, cs = [.int .i64 l, .int .i64 c] := by
  obtain ⟨xs, n, _, _, hlen, hxl, hf⟩ := DataW.trod_struct Tryz.underlying60 h
  rw [celi_pos] at hlen
  match cs, hlen with
  | [v0, v1], _ =>
    have hx0 := List.getElem?_eq_getElem (show 0 < xs.length by rw [hxl]; decide)
    have hx1 := List.getElem?_eq_getElem (show 1 < xs.length by rw [hxl]; decide)
    have g0 : DataW.trod enc Tryz.prog w base sp hd n 3 (([v0, v1].drop 0).take (Tryz.prog.cellsOf 3)) = xs[0]? := hf 0 _ rfl
    have g1 : DataW.trod enc Tryz.prog w base sp hd n 3 (([v0, v1].drop 1).take (Tryz.prog.cellsOf 3)) = xs[1]? := hf 1 _ rfl
    rw [hx0] at g0; rw [hx1] at g1
    simp only [celi_int, List.drop, List.take] at g0 g1
    obtain ⟨a, e0, _, _⟩ := DataW.trod_int Tryz.underlying3 g0
    obtain ⟨b, e1, _, _⟩ := DataW.trod_int Tryz.underlying3 g1
    simp only [List.cons.injEq, and_true] at e0 e1
    exact ⟨a, b, by rw [e0, e1]⟩
set_option maxRecDepth 100000 in
theorem opi_word {fuel : Nat} {cs : List Value} {x : DataW H × List MemPlace} (h : DataW.trod enc Tryz.prog w base sp hd fuel 101 cs = some x) : ∃ (s : ByteArray) (n : Int), cs = [.string s, .int .i64 n] ∧ -9223372036854775808 ≤ n ∧ n ≤ 9223372036854775807 := by
  obtain ⟨xs, n, _, _, hlen, hxl, hf⟩ := DataW.trod_struct Tryz.underlying101 h
  rw [celi_word] at hlen
  match cs, hlen with
  | [v0, v1], _ =>
    have hx0 := List.getElem?_eq_getElem (show 0 < xs.length by rw [hxl]; decide)
    have hx1 := List.getElem?_eq_getElem (show 1 < xs.length by rw [hxl]; decide)
    have g0 : DataW.trod enc Tryz.prog w base sp hd n 9 (([v0, v1].drop 0).take (Tryz.prog.cellsOf 9)) = xs[0]? := hf 0 _ rfl
    have g1 : DataW.trod enc Tryz.prog w base sp hd n 2 (([v0, v1].drop 1).take (Tryz.prog.cellsOf 2)) = xs[1]? := hf 1 _ rfl
    rw [hx0] at g0; rw [hx1] at g1
    simp only [celi_str, celi_i64, List.drop, List.take] at g0 g1
    obtain ⟨s, e0, _, _⟩ := DataW.trod_string Tryz.underlying9 g0
    obtain ⟨b, e1, _, wf⟩ := DataW.trod_int Tryz.underlying2 g1
    simp only [List.cons.injEq, and_true] at e0 e1
    have := bounds_i64 wf
    exact ⟨s, b, by rw [e0, e1], this.1, this.2⟩
/-- the numbers of an item are of 64 bits -/
def ItNum (x : It) : Prop := (-9223372036854775808 ≤ x.op ∧ x.op ≤ 9223372036854775807) ∧ (-9223372036854775808 ≤ x.lnum ∧ x.lnum ≤ 9223372036854775807) ∧ (-9223372036854775808 ≤ x.rnum ∧ x.rnum ≤ 9223372036854775807)
set_option maxRecDepth 100000 in
theorem opi_item {fuel : Nat} {cs : List Value} {x : DataW H × List MemPlace} (h : DataW.trod enc Tryz.prog w base sp hd fuel 103 cs = some x) : ∃ t : It, cs = itCells t ∧ ItNum t := by
  obtain ⟨xs, n, _, _, hlen, hxl, hf⟩ := DataW.trod_struct Tryz.underlying103 h
  rw [celi_it] at hlen
  match cs, hlen with
  | [v0, v1, v2, v3, v4, v5, v6, v7, v8], _ =>
    have hx0 := List.getElem?_eq_getElem (show 0 < xs.length by rw [hxl]; decide)
    have hx1 := List.getElem?_eq_getElem (show 1 < xs.length by rw [hxl]; decide)
    have hx2 := List.getElem?_eq_getElem (show 2 < xs.length by rw [hxl]; decide)
    have hx3 := List.getElem?_eq_getElem (show 3 < xs.length by rw [hxl]; decide)
    have hx4 := List.getElem?_eq_getElem (show 4 < xs.length by rw [hxl]; decide)
    have hx5 := List.getElem?_eq_getElem (show 5 < xs.length by rw [hxl]; decide)
    have g0 : DataW.trod enc Tryz.prog w base sp hd n 3 (([v0, v1, v2, v3, v4, v5, v6, v7, v8].drop 0).take (Tryz.prog.cellsOf 3)) = xs[0]? := hf 0 _ rfl
    have g1 : DataW.trod enc Tryz.prog w base sp hd n 101 (([v0, v1, v2, v3, v4, v5, v6, v7, v8].drop 1).take (Tryz.prog.cellsOf 101)) = xs[1]? := hf 1 _ rfl
    have g2 : DataW.trod enc Tryz.prog w base sp hd n 101 (([v0, v1, v2, v3, v4, v5, v6, v7, v8].drop 3).take (Tryz.prog.cellsOf 101)) = xs[2]? := hf 2 _ rfl
    have g3 : DataW.trod enc Tryz.prog w base sp hd n 9 (([v0, v1, v2, v3, v4, v5, v6, v7, v8].drop 5).take (Tryz.prog.cellsOf 9)) = xs[3]? := hf 3 _ rfl
    have g4 : DataW.trod enc Tryz.prog w base sp hd n 9 (([v0, v1, v2, v3, v4, v5, v6, v7, v8].drop 6).take (Tryz.prog.cellsOf 9)) = xs[4]? := hf 4 _ rfl
    have g5 : DataW.trod enc Tryz.prog w base sp hd n 60 (([v0, v1, v2, v3, v4, v5, v6, v7, v8].drop 7).take (Tryz.prog.cellsOf 60)) = xs[5]? := hf 5 _ rfl
    rw [hx0] at g0; rw [hx1] at g1; rw [hx2] at g2; rw [hx3] at g3; rw [hx4] at g4; rw [hx5] at g5
    simp only [celi_int, celi_word, celi_str, celi_pos, List.drop, List.take] at g0 g1 g2 g3 g4 g5
    obtain ⟨a, e0, _, wf0⟩ := DataW.trod_int Tryz.underlying3 g0
    obtain ⟨s1, n1, e1, b1⟩ := opi_word g1
    obtain ⟨s2, n2, e2, b2⟩ := opi_word g2
    obtain ⟨s3, e3, _, _⟩ := DataW.trod_string Tryz.underlying9 g3
    obtain ⟨s4, e4, _, _⟩ := DataW.trod_string Tryz.underlying9 g4
    obtain ⟨l, c, e5⟩ := opi_pos g5
    simp only [List.cons.injEq, and_true] at e0 e1 e2 e3 e4 e5
    exact ⟨⟨a, s1, n1, s2, n2, s3, s4, l, c⟩, by rw [e0, e1.1, e1.2, e2.1, e2.2, e3, e4, e5.1, e5.2]; rfl, bounds_i64 wf0, b1, b2⟩

instance : Inhabited It := ⟨⟨0, ⟨#[]⟩, 0, ⟨#[]⟩, 0, ⟨#[]⟩, ⟨#[]⟩, 0, 0⟩⟩
set_option maxRecDepth 100000 in
theorem open_its {fuel : Nat} {ad : Option Addr} {n cap : Nat} {x : DataW H × List MemPlace} (h : DataW.trod enc Tryz.prog w base sp hd fuel 61 [.slice ad n cap] = some x) :
    ∃ T : List It, T.length = n ∧ ItIn w (.slice ad n cap) T ∧ ∀ y ∈ T, ItNum y := by
  rcases open_slice Tryz.underlying61 h with ⟨he, _⟩ | ⟨a, len, c, m, k, D, Pl, he, hb, hl, hm, hmm, hx, hall⟩
  · simp only [List.cons.injEq, Value.slice.injEq, and_true] at he
    obtain ⟨rfl, rfl, rfl⟩ := he
    exact ⟨[], rfl, ⟨none, 0, rfl, .inl rfl⟩, fun y hy => by cases hy⟩
  · simp only [List.cons.injEq, Value.slice.injEq, and_true] at he
    obtain ⟨rfl, rfl, rfl⟩ := he
    have hnm : n ≤ m := by rw [hmm]; split <;> omega
    have each : ∀ i, i < n → ∃ t : It, ItNum t ∧ ∀ j, j < 9 → w.cell? (a.add (i * 9 + j)) = (itCells t)[j]? := by
      intro i hi
      obtain ⟨cs, h1, h2⟩ := hall i (by omega)
      rw [celi_it] at h1
      obtain ⟨t, rfl, hnum⟩ := opi_item h2
      obtain ⟨_, hlen, hcell⟩ := World.cells?_some h1
      refine ⟨t, hnum, fun j hj => ?_⟩
      have := hcell j hj
      rwa [add_add] at this
    obtain ⟨t, ht⟩ := choose_lt each
    by_cases h0 : n = 0
    · subst h0
      exact ⟨[], rfl, ⟨_, cap, rfl, .inl rfl⟩, fun y hy => by cases hy⟩
    have hz := (ht 0 (by omega)).2 0 (by omega)
    obtain ⟨b, off, spot⟩ := a
    have hspot : spot = none := by simpa [Addr.add] using World.cell?_spot hz
    subst hspot
    have hadd : ∀ i, (⟨b, off, none⟩ : Addr).add i = ⟨b, off + i, none⟩ := fun i => by unfold Addr.add; split <;> simp_all
    refine ⟨(List.range n).map t, by simp, ⟨some ⟨b, off, none⟩, cap, by simp, .inr ⟨b, off, rfl, World.block_lt_of_cell? w _ (by rw [hadd] at hz; exact hz), fun i y hy j hj => ?_⟩⟩, ?_⟩
    · have hi : i < n := by have := (List.getElem?_eq_some_iff.1 hy).1; simpa using this
      have hy' : y = t i := by simpa [hi] using hy.symm
      subst hy'
      have e := (ht i hi).2 j hj
      rw [hadd, ← Nat.add_assoc] at e
      exact e
    · intro y hy
      obtain ⟨i, hi, rfl⟩ := List.mem_map.1 hy
      exact (ht i (by simpa using hi)).1
end

end Go.Proofs.YtadjnfpomjopkaaGreat
