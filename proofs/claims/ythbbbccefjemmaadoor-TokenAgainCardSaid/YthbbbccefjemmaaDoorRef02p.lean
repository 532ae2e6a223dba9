/- A token in a block of its own; what the document's one answers. -/
import Derived.Test.YthbbbccefjemmaaDoorTokRun
namespace Go.Proofs.YthbbbccefjemmaaDoor
open Go.RowKit

/-- a token in a block of its own -/
def TkAt (w : World) (b : Nat) (x : Tk) : Prop := w.heap[b]? = some (.cells #[.int .i64 x.kind, .string x.text, .int .i64 x.num, .int .i64 x.line, .int .i64 x.col] 35 (0, 0))
theorem TkAt.facts {w : World} {b : Nat} {x : Tk} (h : TkAt w b x) :
    w.cell? ⟨b, 0, none⟩ = some (.int .i64 x.kind) ∧ w.cell? ⟨b, 1, none⟩ = some (.string x.text) ∧ w.cell? ⟨b, 2, none⟩ = some (.int .i64 x.num) ∧ w.cell? ⟨b, 3, none⟩ = some (.int .i64 x.line) ∧ w.cell? ⟨b, 4, none⟩ = some (.int .i64 x.col) := by
  unfold TkAt at h
  refine ⟨?_, ?_, ?_, ?_, ?_⟩ <;> simp [World.cell?, h]
theorem TkAt.free {w : World} {b : Nat} {x : Tk} (h : TkAt w b x) :
    w.frozen? ⟨b, 0, none⟩ = false ∧ w.frozen? ⟨b, 1, none⟩ = false ∧ w.frozen? ⟨b, 2, none⟩ = false ∧ w.frozen? ⟨b, 3, none⟩ = false ∧ w.frozen? ⟨b, 4, none⟩ = false := by
  unfold TkAt at h
  refine ⟨?_, ?_, ?_, ?_, ?_⟩ <;> simp [World.frozen?, h]
theorem TkAt.setKind {w : World} {b : Nat} {x : Tk} (h : TkAt w b x) (k : Int) : TkAt (w.setCell ⟨b, 0, none⟩ (.int .i64 k)) b { x with kind := k } := heap_setCell_same w b 0 _ _ (.int .i64 k) h
theorem TkAt.setText {w : World} {b : Nat} {x : Tk} (h : TkAt w b x) (t : ByteArray) : TkAt (w.setCell ⟨b, 1, none⟩ (.string t)) b { x with text := t } := heap_setCell_same w b 1 _ _ (.string t) h
theorem TkAt.setNum {w : World} {b : Nat} {x : Tk} (h : TkAt w b x) (k : Int) : TkAt (w.setCell ⟨b, 2, none⟩ (.int .i64 k)) b { x with num := k } := heap_setCell_same w b 2 _ _ (.int .i64 k) h
theorem TkAt.setOther {w : World} {b g j : Nat} {x : Tk} (h : TkAt w b x) (hne : g ≠ b) (u : Value) : TkAt (w.setCell ⟨g, j, none⟩ u) b x := (Below.heap_setCell _ _ _ _ (by show b ≠ g; omega)).trans h
theorem TkAt.lt {w : World} {b : Nat} {x : Tk} (h : TkAt w b x) : b < w.heap.size := (Array.getElem?_eq_some_iff.1 h).1
theorem TkAt.below {w w' : World} {b B : Nat} {x : Tk} (h : TkAt w b x) (hb : Below B w w') (hB : b < B) : TkAt w' b x := (hb.block b hB).trans h
theorem TkAt.alloc {w : World} {b : Nat} {x : Tk} (h : TkAt w b x) (o : Obj) : TkAt (w.alloc o) b x := (Below.heap_alloc _ _ _ h.lt).trans h
theorem TkAt.drewN {w : World} {b : Nat} {x : Tk} (h : TkAt w b x) (n : Nat) : TkAt (w.drewN n) b x := h
theorem TkAt.drew {w : World} {b : Nat} {x : Tk} (h : TkAt w b x) : TkAt w.drew b x := h
theorem TkAt.stored {w : World} {b : Nat} {x : Tk} (h : TkAt w b x) (y : Tk) :
    TkAt (((((w.setCell ⟨b, 0, none⟩ (.int .i64 y.kind)).setCell ⟨b, 1, none⟩ (.string y.text)).setCell ⟨b, 2, none⟩ (.int .i64 y.num)).setCell ⟨b, 3, none⟩ (.int .i64 y.line)).setCell ⟨b, 4, none⟩ (.int .i64 y.col)) b y := by
  have h1 := heap_setCell_same w b 0 _ _ (.int .i64 y.kind) h
  have h2 := heap_setCell_same _ b 1 _ _ (.string y.text) h1
  have h3 := heap_setCell_same _ b 2 _ _ (.int .i64 y.num) h2
  have h4 := heap_setCell_same _ b 3 _ _ (.int .i64 y.line) h3
  exact heap_setCell_same _ b 4 _ _ (.int .i64 y.col) h4
theorem TkAt.new (w : World) (k n l c : Int) (t : ByteArray) : TkAt (w.alloc (.cells #[.int .i64 k, .string t, .int .i64 n, .int .i64 l, .int .i64 c] 35)) w.heap.size ⟨k, t, n, l, c⟩ := heap_alloc_new w _
theorem below_stored {w0 w : World} {B b : Nat} (h : Below B w0 w) (hb : B ≤ b) (y : Tk) : Below B w0 (((((w.setCell ⟨b, 0, none⟩ (.int .i64 y.kind)).setCell ⟨b, 1, none⟩ (.string y.text)).setCell ⟨b, 2, none⟩ (.int .i64 y.num)).setCell ⟨b, 3, none⟩ (.int .i64 y.line)).setCell ⟨b, 4, none⟩ (.int .i64 y.col)) :=
  ((((h.setCell (p := ⟨b, 0, none⟩) hb _).setCell (p := ⟨b, 1, none⟩) hb _).setCell (p := ⟨b, 2, none⟩) hb _).setCell (p := ⟨b, 3, none⟩) hb _).setCell (p := ⟨b, 4, none⟩) hb _

/-- what the document's one answers -/
def tkV (x : Tk) : Value := .agg #[.int .i64 x.kind, .string x.text, .int .i64 x.num, .int .i64 x.line, .int .i64 x.col]
def ROne (w : World) (x : Tk) (j : Nat) (er : Int) (e : Ending) (w' : World) : Prop := e = .returned (.tuple #[tkV x, .int .i64 j, .int .i64 er]) ∧ Below w.heap.size w w'

/-- the reference's runes' own cells -/
theorem RR.rune {w : World} {v : Value} {L : List Rn} (h : RR w v L) {j : Nat} {x : Rn} (hj : L[j]? = some x) :
    ∃ g cap, v = .slice (some ⟨g, 0, none⟩) L.length cap ∧ w.cell? ⟨g, j * 5, none⟩ = some (.int .i64 x.r) ∧ w.cell? ⟨g, j * 5 + 1, none⟩ = some (.int .i64 x.fr) ∧ w.cell? ⟨g, j * 5 + 2, none⟩ = some (.int .i64 x.to) ∧
      w.cell? ⟨g, j * 5 + 3, none⟩ = some (.int .i64 x.line) ∧ w.cell? ⟨g, j * 5 + 4, none⟩ = some (.int .i64 x.col) := by
  obtain ⟨B, hr⟩ := h
  have hjl := (List.getElem?_eq_some_iff.1 hj).1
  obtain ⟨g, cap, rfl, hg, hgs⟩ := owns_shape hr (by omega)
  exact ⟨g, cap, rfl, (World.ownsRow.cellAt hr (j * 5) (by omega)).trans (rnFlat_get .i64 _ j 0 x hj (by omega)), (World.ownsRow.cellAt hr (j * 5 + 1) (by omega)).trans (rnFlat_get .i64 _ j 1 x hj (by omega)),
    (World.ownsRow.cellAt hr (j * 5 + 2) (by omega)).trans (rnFlat_get .i64 _ j 2 x hj (by omega)), (World.ownsRow.cellAt hr (j * 5 + 3) (by omega)).trans (rnFlat_get .i64 _ j 3 x hj (by omega)), (World.ownsRow.cellAt hr (j * 5 + 4) (by omega)).trans (rnFlat_get .i64 _ j 4 x hj (by omega))⟩

end Go.Proofs.YthbbbccefjemmaaDoor
