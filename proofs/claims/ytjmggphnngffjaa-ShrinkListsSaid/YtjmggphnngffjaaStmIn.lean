/- Statements that came in, wherever they lie: what reads as them. -/
import Derived.Test.YtjmggphnngffjaaItArg
namespace Go.Proofs.Ytjmggphnngffjaa
open Go.RowKit Go.ChangeShapes Go.WideShapes Go.Deep

/-- a slice of strings, wherever it lies -/
def NmIn (w : World) (v : Value) (T : List ByteArray) : Prop :=
  ∃ ad cap, v = .slice ad T.length cap ∧ (T = [] ∨ ∃ g off, ad = some ⟨g, off, none⟩ ∧ g < w.heap.size ∧ ∀ (k : Nat) (x : ByteArray), T[k]? = some x → w.cell? ⟨g, off + k, none⟩ = some (.string x))
theorem NmIn.keep {w w' : World} {v : Value} {T : List ByteArray} (h : NmIn w v T) (hb : Below w.heap.size w w') : NmIn w' v T := by
  obtain ⟨ad, cap, hv, h⟩ := h
  refine ⟨ad, cap, hv, ?_⟩
  rcases h with h | ⟨g, off, ha, hg, hc⟩
  · exact .inl h
  · exact .inr ⟨g, off, ha, Nat.lt_of_lt_of_le hg hb.size, fun k x hx => (hb.cell (p := ⟨g, off + k, none⟩) hg).trans (hc k x hx)⟩
theorem NmIn.len {w : World} {v : Value} {T : List ByteArray} (h : NmIn w v T) : ∃ ad cap, v = .slice ad T.length cap := by
  obtain ⟨ad, cap, hv, _⟩ := h; exact ⟨ad, cap, hv⟩
theorem NmIn.at {w : World} {v : Value} {T : List ByteArray} (h : NmIn w v T) {k : Nat} {x : ByteArray} (hx : T[k]? = some x) :
    ∃ g off cap, v = .slice (some ⟨g, off, none⟩) T.length cap ∧ g < w.heap.size ∧ w.cell? ⟨g, off + k, none⟩ = some (.string x) := by
  obtain ⟨ad, cap, rfl, h⟩ := h
  rcases h with rfl | ⟨g, off, rfl, hg, hc⟩
  · simp at hx
  · exact ⟨g, off, cap, rfl, hg, hc k x hx⟩

/-- a statement, with the two slices that it holds -/
structure Sm where
  kind : Int
  name : ByteArray
  line : Int
  col : Int
  init : Int
  nv : Value
  role : ByteArray
  stage : ByteArray
  event : ByteArray
  times : Int
  iv : Value
  final : Bool
  names : List ByteArray
  ifs : List It
def smCells (x : Sm) : List Value := [.int .i64 x.kind, .string x.name, .int .i64 x.line, .int .i64 x.col, .int .i64 x.init, x.nv, .string x.role, .string x.stage, .string x.event, .int .i64 x.times, x.iv, .bool x.final]
def smFlat (l : List Sm) : List Value := l.flatMap smCells
theorem smFlat_len (l : List Sm) : (smFlat l).length = l.length * 12 := by
  induction l with
  | nil => rfl
  | cons x r ih => simp only [smFlat, List.flatMap_cons, List.length_append, List.length_cons] at *; rw [ih]; simp [smCells]; omega
theorem smFlat_app (a b : List Sm) : smFlat (a ++ b) = smFlat a ++ smFlat b := by simp [smFlat]
theorem smFlat_cons (x : Sm) (l : List Sm) : smFlat (x :: l) = smCells x ++ smFlat l := by simp [smFlat]
theorem smFlat_get (l : List Sm) (i j : Nat) (x : Sm) (hx : l[i]? = some x) (hj : j < 12) : (smFlat l)[i * 12 + j]? = (smCells x)[j]? := by
  induction l generalizing i with
  | nil => simp at hx
  | cons y r ih =>
    rw [smFlat_cons]
    cases i with
    | zero =>
      simp only [List.getElem?_cons_zero, Option.some.injEq] at hx
      subst hx
      rw [Nat.zero_mul, Nat.zero_add, List.getElem?_append_left (by simp [smCells]; omega)]
    | succ i =>
      rw [List.getElem?_append_right (by simp [smCells]; omega)]
      rw [show (i + 1) * 12 + j - (smCells y).length = i * 12 + j by simp [smCells]; omega]
      exact ih i (by simpa using hx)
/-- what its slices hold -/
def SmOK (w : World) (x : Sm) : Prop := NmIn w x.nv x.names ∧ ItIn w x.iv x.ifs
theorem SmOK.keep {w w' : World} {x : Sm} (h : SmOK w x) (hb : Below w.heap.size w w') : SmOK w' x := ⟨h.1.keep hb, h.2.keep hb⟩
/-- a slice of statements, wherever it lies -/
def SmIn (w : World) (v : Value) (T : List Sm) : Prop :=
  ∃ ad cap, v = .slice ad T.length cap ∧ ((ad = none → cap = 0) ∧ T.length ≤ cap ∧ cap ≤ maxLen) ∧ (T = [] ∨ ∃ g off, ad = some ⟨g, off, none⟩ ∧ g < w.heap.size ∧ ∀ (k : Nat) (x : Sm), T[k]? = some x → ∀ j, j < 12 → w.cell? ⟨g, off + k * 12 + j, none⟩ = (smCells x)[j]?)
theorem SmIn.keep {w w' : World} {v : Value} {T : List Sm} (h : SmIn w v T) (hb : Below w.heap.size w w') : SmIn w' v T := by
  obtain ⟨ad, cap, hv, hz, h⟩ := h
  refine ⟨ad, cap, hv, hz, ?_⟩
  rcases h with h | ⟨g, off, ha, hg, hc⟩
  · exact .inl h
  · exact .inr ⟨g, off, ha, Nat.lt_of_lt_of_le hg hb.size, fun k x hx j hj => (hb.cell (p := ⟨g, off + k * 12 + j, none⟩) hg).trans (hc k x hx j hj)⟩
theorem SmIn.len {w : World} {v : Value} {T : List Sm} (h : SmIn w v T) : ∃ ad cap, v = .slice ad T.length cap := by
  obtain ⟨ad, cap, hv, _, _⟩ := h; exact ⟨ad, cap, hv⟩
theorem SmIn.at {w : World} {v : Value} {T : List Sm} (h : SmIn w v T) {k : Nat} {x : Sm} (hx : T[k]? = some x) :
    ∃ g off cap, v = .slice (some ⟨g, off, none⟩) T.length cap ∧ g < w.heap.size ∧ w.cell? ⟨g, off + k * 12, none⟩ = some (.int .i64 x.kind) ∧ w.cell? ⟨g, off + k * 12 + 1, none⟩ = some (.string x.name) ∧ w.cell? ⟨g, off + k * 12 + 2, none⟩ = some (.int .i64 x.line) ∧
      w.cell? ⟨g, off + k * 12 + 3, none⟩ = some (.int .i64 x.col) ∧ w.cell? ⟨g, off + k * 12 + 4, none⟩ = some (.int .i64 x.init) ∧ w.cell? ⟨g, off + k * 12 + 5, none⟩ = some x.nv ∧ w.cell? ⟨g, off + k * 12 + 6, none⟩ = some (.string x.role) ∧
      w.cell? ⟨g, off + k * 12 + 7, none⟩ = some (.string x.stage) ∧ w.cell? ⟨g, off + k * 12 + 8, none⟩ = some (.string x.event) ∧ w.cell? ⟨g, off + k * 12 + 9, none⟩ = some (.int .i64 x.times) ∧ w.cell? ⟨g, off + k * 12 + 10, none⟩ = some x.iv ∧ w.cell? ⟨g, off + k * 12 + 11, none⟩ = some (.bool x.final) := by
  obtain ⟨ad, cap, rfl, _, h⟩ := h
  rcases h with rfl | ⟨g, off, rfl, hg, hc⟩
  · simp at hx
  · have c := hc k x hx
    exact ⟨g, off, cap, rfl, hg, c 0 (by omega), c 1 (by omega), c 2 (by omega), c 3 (by omega), c 4 (by omega), c 5 (by omega), c 6 (by omega), c 7 (by omega), c 8 (by omega), c 9 (by omega), c 10 (by omega), c 11 (by omega)⟩
theorem SmIn.of_row {w : World} {base : Nat} {v : Value} {T : List Sm} (h : w.ownsRow base 31 12 v T.length (smFlat T)) : SmIn w v T := by
  rcases h.2 with ⟨rfl, h0⟩ | ⟨g, cap, cur, rfl, hb, hg, hn, hc, _⟩
  · exact ⟨none, 0, by rw [h0], ⟨fun _ => rfl, by omega, by unfold maxLen; omega⟩, .inl (List.length_eq_zero_iff.1 h0)⟩
  · refine ⟨_, cap, rfl, ⟨fun e => (by cases e), hn, hc⟩, .inr ⟨g, 0, rfl, (Array.getElem?_eq_some_iff.1 hg).1, fun k x hx j hj => ?_⟩⟩
    have hk := (List.getElem?_eq_some_iff.1 hx).1
    rw [Nat.zero_add, World.ownsRow.cellAt h (k * 12 + j) (by omega), smFlat_get T k j x hx hj]

section
variable {H : Type} {enc : TypeId × Value → H} {w : World} {base : Nat} {sp : Nat → Bool} {hd : Bool}
theorem cels_stm : Try.prog.cellsOf 31 = 12 := by kernel_rfl
theorem cels_bool : Try.prog.cellsOf 4 = 1 := by kernel_rfl
theorem cels_nm : Try.prog.cellsOf 28 = 1 := by kernel_rfl
theorem cels_its : Try.prog.cellsOf 29 = 1 := by kernel_rfl
set_option maxRecDepth 100000 in
theorem open_nms {fuel : Nat} {ad : Option Addr} {n cap : Nat} {x : DataW H × List MemPlace} (h : DataW.trod enc Try.prog w base sp hd fuel 28 [.slice ad n cap] = some x) :
    ∃ T : List ByteArray, T.length = n ∧ NmIn w (.slice ad n cap) T := by
  rcases open_slice Try.underlying28 h with ⟨he, _⟩ | ⟨a, len, c, m, k, D, Pl, he, hb, hl, hm, hmm, hx, hall⟩
  · simp only [List.cons.injEq, Value.slice.injEq, and_true] at he
    obtain ⟨rfl, rfl, rfl⟩ := he
    exact ⟨[], rfl, none, 0, rfl, .inl rfl⟩
  · simp only [List.cons.injEq, Value.slice.injEq, and_true] at he
    obtain ⟨rfl, rfl, rfl⟩ := he
    have hnm : n ≤ m := by rw [hmm]; split <;> omega
    have each : ∀ i, i < n → ∃ t : ByteArray, w.cell? (a.add i) = some (.string t) := by
      intro i hi
      obtain ⟨cs, h1, h2⟩ := hall i (by omega)
      rw [celi_str] at h1
      obtain ⟨t, rfl, _, _⟩ := DataW.trod_string Try.underlying9 h2
      obtain ⟨_, hlen, hcell⟩ := World.cells?_some h1
      have := hcell 0 (by decide)
      rw [Nat.mul_one] at this
      refine ⟨t, ?_⟩
      rw [show (a.add i).add 0 = a.add i by rw [add_add, Nat.add_zero]] at this
      exact this
    obtain ⟨t, ht⟩ := choose_lt each
    by_cases h0 : n = 0
    · subst h0
      exact ⟨[], rfl, _, cap, rfl, .inl rfl⟩
    have hz := ht 0 (by omega)
    obtain ⟨b, off, spot⟩ := a
    have hspot : spot = none := by simpa [Addr.add] using World.cell?_spot hz
    subst hspot
    have hadd : ∀ i, (⟨b, off, none⟩ : Addr).add i = ⟨b, off + i, none⟩ := fun i => by unfold Addr.add; split <;> simp_all
    refine ⟨(List.range n).map t, by simp, some ⟨b, off, none⟩, cap, by simp, .inr ⟨b, off, rfl, World.block_lt_of_cell? w _ (by rw [hadd] at hz; exact hz), fun i y hy => ?_⟩⟩
    have hi : i < n := by have := (List.getElem?_eq_some_iff.1 hy).1; simpa using this
    have hy' : y = t i := by simpa [hi] using hy.symm
    subst hy'
    have e := ht i hi
    rw [hadd] at e
    exact e
/-- the lists of a statement are no longer than a list may be -/
def SmLen (x : Sm) : Prop := x.names.length ≤ 9223372036854775807 ∧ x.ifs.length ≤ 9223372036854775807
theorem slice_form {t e : TypeId} {fuel : Nat} {v : Value} {x : DataW H × List MemPlace} (ht : Try.prog.underlying t = some (.slice e)) (h : DataW.trod enc Try.prog w base sp hd fuel t [v] = some x) : ∃ ad n cap, v = .slice ad n cap ∧ n ≤ 9223372036854775807 := by
  rcases open_slice ht h with ⟨he, _⟩ | ⟨a, len, c, m, k, D, Pl, he, hb, hl, hm, _⟩
  · simp only [List.cons.injEq, and_true] at he
    exact ⟨none, 0, 0, he, by omega⟩
  · simp only [List.cons.injEq, and_true] at he
    exact ⟨some a, len, c, he, by unfold maxLen at hm; omega⟩
set_option maxRecDepth 100000 in
set_option maxHeartbeats 1000000 in
theorem open_stm {fuel : Nat} {cs : List Value} {x : DataW H × List MemPlace} (h : DataW.trod enc Try.prog w base sp hd fuel 31 cs = some x) : ∃ t : Sm, cs = smCells t ∧ SmOK w t ∧ SmLen t ∧ -9223372036854775808 ≤ t.kind ∧ t.kind ≤ 9223372036854775807 := by
  obtain ⟨xs, n, _, _, hlen, hxl, hf⟩ := DataW.trod_struct Try.underlying31 h
  rw [cels_stm] at hlen
  match cs, hlen with
  | [v0, v1, v2, v3, v4, v5, v6, v7, v8, v9, v10, v11], _ =>
    have hx0 := List.getElem?_eq_getElem (show 0 < xs.length by rw [hxl]; decide)
    have hx1 := List.getElem?_eq_getElem (show 1 < xs.length by rw [hxl]; decide)
    have hx2 := List.getElem?_eq_getElem (show 2 < xs.length by rw [hxl]; decide)
    have hx3 := List.getElem?_eq_getElem (show 3 < xs.length by rw [hxl]; decide)
    have hx4 := List.getElem?_eq_getElem (show 4 < xs.length by rw [hxl]; decide)
    have hx5 := List.getElem?_eq_getElem (show 5 < xs.length by rw [hxl]; decide)
    have hx6 := List.getElem?_eq_getElem (show 6 < xs.length by rw [hxl]; decide)
    have hx7 := List.getElem?_eq_getElem (show 7 < xs.length by rw [hxl]; decide)
    have hx8 := List.getElem?_eq_getElem (show 8 < xs.length by rw [hxl]; decide)
    have hx9 := List.getElem?_eq_getElem (show 9 < xs.length by rw [hxl]; decide)
    have hx10 := List.getElem?_eq_getElem (show 10 < xs.length by rw [hxl]; decide)
    have g0 : DataW.trod enc Try.prog w base sp hd n 3 (([v0, v1, v2, v3, v4, v5, v6, v7, v8, v9, v10, v11].drop 0).take (Try.prog.cellsOf 3)) = xs[0]? := hf 0 _ rfl
    have g1 : DataW.trod enc Try.prog w base sp hd n 9 (([v0, v1, v2, v3, v4, v5, v6, v7, v8, v9, v10, v11].drop 1).take (Try.prog.cellsOf 9)) = xs[1]? := hf 1 _ rfl
    have g2 : DataW.trod enc Try.prog w base sp hd n 27 (([v0, v1, v2, v3, v4, v5, v6, v7, v8, v9, v10, v11].drop 2).take (Try.prog.cellsOf 27)) = xs[2]? := hf 2 _ rfl
    have g3 : DataW.trod enc Try.prog w base sp hd n 2 (([v0, v1, v2, v3, v4, v5, v6, v7, v8, v9, v10, v11].drop 4).take (Try.prog.cellsOf 2)) = xs[3]? := hf 3 _ rfl
    have g4 : DataW.trod enc Try.prog w base sp hd n 28 (([v0, v1, v2, v3, v4, v5, v6, v7, v8, v9, v10, v11].drop 5).take (Try.prog.cellsOf 28)) = xs[4]? := hf 4 _ rfl
    have g5 : DataW.trod enc Try.prog w base sp hd n 9 (([v0, v1, v2, v3, v4, v5, v6, v7, v8, v9, v10, v11].drop 6).take (Try.prog.cellsOf 9)) = xs[5]? := hf 5 _ rfl
    have g6 : DataW.trod enc Try.prog w base sp hd n 9 (([v0, v1, v2, v3, v4, v5, v6, v7, v8, v9, v10, v11].drop 7).take (Try.prog.cellsOf 9)) = xs[6]? := hf 6 _ rfl
    have g7 : DataW.trod enc Try.prog w base sp hd n 9 (([v0, v1, v2, v3, v4, v5, v6, v7, v8, v9, v10, v11].drop 8).take (Try.prog.cellsOf 9)) = xs[7]? := hf 7 _ rfl
    have g8 : DataW.trod enc Try.prog w base sp hd n 3 (([v0, v1, v2, v3, v4, v5, v6, v7, v8, v9, v10, v11].drop 9).take (Try.prog.cellsOf 3)) = xs[8]? := hf 8 _ rfl
    have g9 : DataW.trod enc Try.prog w base sp hd n 29 (([v0, v1, v2, v3, v4, v5, v6, v7, v8, v9, v10, v11].drop 10).take (Try.prog.cellsOf 29)) = xs[9]? := hf 9 _ rfl
    have g10 : DataW.trod enc Try.prog w base sp hd n 4 (([v0, v1, v2, v3, v4, v5, v6, v7, v8, v9, v10, v11].drop 11).take (Try.prog.cellsOf 4)) = xs[10]? := hf 10 _ rfl
    rw [hx0] at g0; rw [hx1] at g1; rw [hx2] at g2; rw [hx3] at g3; rw [hx4] at g4; rw [hx5] at g5; rw [hx6] at g6; rw [hx7] at g7; rw [hx8] at g8; rw [hx9] at g9; rw [hx10] at g10
    simp only [celi_int, celi_str, celi_pos, celi_i64, cels_bool, cels_nm, cels_its, List.drop, List.take] at g0 g1 g2 g3 g4 g5 g6 g7 g8 g9 g10
    obtain ⟨a0, e0, _, wf0⟩ := DataW.trod_int Try.underlying3 g0
    obtain ⟨s1, e1, _, _⟩ := DataW.trod_string Try.underlying9 g1
    obtain ⟨l, c, e2⟩ := opi_pos g2
    obtain ⟨a4, e4, _, _⟩ := DataW.trod_int Try.underlying2 g3
    obtain ⟨ad5, n5, cap5, e5, b5⟩ := slice_form Try.underlying28 g4
    obtain ⟨s6, e6, _, _⟩ := DataW.trod_string Try.underlying9 g5
    obtain ⟨s7, e7, _, _⟩ := DataW.trod_string Try.underlying9 g6
    obtain ⟨s8, e8, _, _⟩ := DataW.trod_string Try.underlying9 g7
    obtain ⟨a9, e9, _, _⟩ := DataW.trod_int Try.underlying3 g8
    obtain ⟨ad10, n10, cap10, e10, b10⟩ := slice_form Try.underlying29 g9
    obtain ⟨bo, e11, _⟩ := DataW.trod_bool Try.underlying4 g10
    subst e5 e10
    obtain ⟨ns, hnl, hns⟩ := open_nms g4
    obtain ⟨its, hil, his, _⟩ := open_its g9
    simp only [List.cons.injEq, and_true] at e0 e1 e2 e4 e6 e7 e8 e9 e11
    exact ⟨⟨a0, s1, l, c, a4, .slice ad5 n5 cap5, s6, s7, s8, a9, .slice ad10 n10 cap10, bo, ns, its⟩, by rw [e0, e1, e2.1, e2.2, e4, e6, e7, e8, e9, e11]; rfl, ⟨hns, his⟩, ⟨by dsimp only; omega, by dsimp only; omega⟩, bounds_i64 wf0⟩
instance : Inhabited Sm := ⟨⟨0, ⟨#[]⟩, 0, 0, 0, undef, ⟨#[]⟩, ⟨#[]⟩, ⟨#[]⟩, 0, undef, false, [], []⟩⟩
set_option maxRecDepth 100000 in
theorem open_stms {fuel : Nat} {ad : Option Addr} {n cap : Nat} {x : DataW H × List MemPlace} (h : DataW.trod enc Try.prog w base sp hd fuel 22 [.slice ad n cap] = some x) :
    ∃ T : List Sm, T.length = n ∧ SmIn w (.slice ad n cap) T ∧ ∀ y ∈ T, SmOK w y ∧ SmLen y ∧ -9223372036854775808 ≤ y.kind ∧ y.kind ≤ 9223372036854775807 := by
  rcases open_slice Try.underlying22 h with ⟨he, _⟩ | ⟨a, len, c, m, k, D, Pl, he, hb, hl, hm, hmm, hx, hall⟩
  · simp only [List.cons.injEq, Value.slice.injEq, and_true] at he
    obtain ⟨rfl, rfl, rfl⟩ := he
    exact ⟨[], rfl, ⟨none, 0, rfl, ⟨fun _ => rfl, Nat.le_refl _, by unfold maxLen; omega⟩, .inl rfl⟩, fun y hy => by cases hy⟩
  · simp only [List.cons.injEq, Value.slice.injEq, and_true] at he
    obtain ⟨rfl, rfl, rfl⟩ := he
    have hnm : n ≤ m := by rw [hmm]; split <;> omega
    have each : ∀ i, i < n → ∃ t : Sm, (SmOK w t ∧ SmLen t ∧ -9223372036854775808 ≤ t.kind ∧ t.kind ≤ 9223372036854775807) ∧ ∀ j, j < 12 → w.cell? (a.add (i * 12 + j)) = (smCells t)[j]? := by
      intro i hi
      obtain ⟨cs, h1, h2⟩ := hall i (by omega)
      rw [cels_stm] at h1
      obtain ⟨t, rfl, hok⟩ := open_stm h2
      obtain ⟨_, hlen, hcell⟩ := World.cells?_some h1
      refine ⟨t, hok, fun j hj => ?_⟩
      have := hcell j hj
      rwa [add_add] at this
    obtain ⟨t, ht⟩ := choose_lt each
    by_cases h0 : n = 0
    · subst h0
      exact ⟨[], rfl, ⟨_, cap, rfl, ⟨fun e => (by cases e), hl, hm⟩, .inl rfl⟩, fun y hy => by cases hy⟩
    have hz := (ht 0 (by omega)).2 0 (by omega)
    obtain ⟨b, off, spot⟩ := a
    have hspot : spot = none := by simpa [Addr.add] using World.cell?_spot hz
    subst hspot
    have hadd : ∀ i, (⟨b, off, none⟩ : Addr).add i = ⟨b, off + i, none⟩ := fun i => by unfold Addr.add; split <;> simp_all
    refine ⟨(List.range n).map t, by simp, ⟨some ⟨b, off, none⟩, cap, by simp, ⟨fun e => (by cases e), by simpa using hl, hm⟩, .inr ⟨b, off, rfl, World.block_lt_of_cell? w _ (by rw [hadd] at hz; exact hz), fun i y hy j hj => ?_⟩⟩, ?_⟩
    · have hi : i < n := by have := (List.getElem?_eq_some_iff.1 hy).1; simpa using this
      have hy' : y = t i := by simpa [hi] using hy.symm
      subst hy'
      have e := (ht i hi).2 j hj
      rw [hadd, ← Nat.add_assoc] at e
      exact e
    · intro y hy
      obtain ⟨i, hi, rfl⟩ := List.mem_map.1 hy
      exact (ht i (by simpa using hi)).1
end

end Go.Proofs.Ytjmggphnngffjaa
