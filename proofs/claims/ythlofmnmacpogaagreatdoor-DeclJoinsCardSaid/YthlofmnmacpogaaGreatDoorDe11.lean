/- Statements in blocks; contract of decl.One (printed by gen_decl7.py). Contract of decl.One: its beginning (printed by gen_decl8.py). -/
import Derived.Test.YthlofmnmacpogaaGreatDoorDe10

namespace Go.Proofs.YthlofmnmacpogaaGreatDoor
open Go.RowKit

def stV (x : St) (nv iv : Value) : Value := .agg #[.int .i64 x.kind, .string x.name, .int .i64 x.line, .int .i64 x.col, .int .i64 x.init, nv, .string x.role, .string x.stage, .string x.event, .int .i64 x.times, iv, .bool x.final]
/-- a statement in a block of its own -/
def StB (w : World) (b : Nat) (x : St) (nv iv : Value) : Prop := w.heap[b]? = some (.cells #[.int .i64 x.kind, .string x.name, .int .i64 x.line, .int .i64 x.col, .int .i64 x.init, nv, .string x.role, .string x.stage, .string x.event, .int .i64 x.times, iv, .bool x.final] 37 (0, 0))
theorem StB.facts {w : World} {b : Nat} {x : St} {nv iv : Value} (h : StB w b x nv iv) : w.cell? ⟨b, 0, none⟩ = some (.int .i64 x.kind) ∧ w.cell? ⟨b, 1, none⟩ = some (.string x.name) ∧ w.cell? ⟨b, 2, none⟩ = some (.int .i64 x.line) ∧ w.cell? ⟨b, 3, none⟩ = some (.int .i64 x.col) ∧ w.cell? ⟨b, 4, none⟩ = some (.int .i64 x.init) ∧ w.cell? ⟨b, 5, none⟩ = some nv ∧ w.cell? ⟨b, 6, none⟩ = some (.string x.role) ∧ w.cell? ⟨b, 7, none⟩ = some (.string x.stage) ∧ w.cell? ⟨b, 8, none⟩ = some (.string x.event) ∧ w.cell? ⟨b, 9, none⟩ = some (.int .i64 x.times) ∧ w.cell? ⟨b, 10, none⟩ = some iv ∧ w.cell? ⟨b, 11, none⟩ = some (.bool x.final) := by
  unfold StB at h
  refine ⟨?_, ?_, ?_, ?_, ?_, ?_, ?_, ?_, ?_, ?_, ?_, ?_⟩ <;> simp [World.cell?, h]
theorem StB.free {w : World} {b : Nat} {x : St} {nv iv : Value} (h : StB w b x nv iv) : w.frozen? ⟨b, 0, none⟩ = false ∧ w.frozen? ⟨b, 1, none⟩ = false ∧ w.frozen? ⟨b, 2, none⟩ = false ∧ w.frozen? ⟨b, 3, none⟩ = false ∧ w.frozen? ⟨b, 4, none⟩ = false ∧ w.frozen? ⟨b, 5, none⟩ = false ∧ w.frozen? ⟨b, 6, none⟩ = false ∧ w.frozen? ⟨b, 7, none⟩ = false ∧ w.frozen? ⟨b, 8, none⟩ = false ∧ w.frozen? ⟨b, 9, none⟩ = false ∧ w.frozen? ⟨b, 10, none⟩ = false ∧ w.frozen? ⟨b, 11, none⟩ = false := by
  unfold StB at h
  refine ⟨?_, ?_, ?_, ?_, ?_, ?_, ?_, ?_, ?_, ?_, ?_, ?_⟩ <;> simp [World.frozen?, h]
theorem StB.lt {w : World} {b : Nat} {x : St} {nv iv : Value} (h : StB w b x nv iv) : b < w.heap.size := (Array.getElem?_eq_some_iff.1 h).1
theorem StB.alloc {w : World} {b : Nat} {x : St} {nv iv : Value} (h : StB w b x nv iv) (o : Obj) : StB (w.alloc o) b x nv iv := (Below.heap_alloc _ _ _ h.lt).trans h
theorem StB.below {w : World} {b : Nat} {x : St} {nv iv : Value} {w' : World} (h : StB w b x nv iv) (hb : Below w.heap.size w w') : StB w' b x nv iv := (hb.block b h.lt).trans h
theorem StB.grown {w : World} {b : Nat} {x : St} {nv iv : Value} {w' : World} {k : Nat} (h : StB w b x nv iv) (hg : w.grownBy w' (some k)) (hne : b ≠ k) : StB w' b x nv iv := (hg.block b h.lt (fun e => hne (Option.some.inj e))).trans h
theorem StB.drew {w : World} {b : Nat} {x : St} {nv iv : Value} (h : StB w b x nv iv) : StB w.drew b x nv iv := h
theorem StB.drewN {w : World} {b : Nat} {x : St} {nv iv : Value} (h : StB w b x nv iv) (n : Nat) : StB (w.drewN n) b x nv iv := h
theorem StB.over {w : World} {b : Nat} {x : St} {nv iv : Value} (h : StB w b x nv iv) {k j : Nat} (hne : b ≠ k) (u : Value) : StB (w.setCell ⟨k, j, none⟩ u) b x nv iv := (Below.heap_setCell _ _ _ _ (by show b ≠ k; exact hne)).trans h
theorem FtB.grown {w w' : World} {b k : Nat} {e l c : Int} (h : FtB w b e l c) (hg : w.grownBy w' (some k)) (hne : b ≠ k) : FtB w' b e l c := (hg.block b h.lt (fun e => hne (Option.some.inj e))).trans h
theorem FtB.over1 {w : World} {b : Nat} {e l c : Int} (h : FtB w b e l c) {k j : Nat} (hne : b ≠ k) (u : Value) : FtB (w.setCell ⟨k, j, none⟩ u) b e l c := (Below.heap_setCell _ _ _ _ (by show b ≠ k; exact hne)).trans h
set_option maxHeartbeats 2000000 in
theorem StB.stored {w : World} {b : Nat} {x : St} {nv iv : Value} (h : StB w b x nv iv) (y : St) (nv2 iv2 : Value) : StB ((((((((((((w.setCell ⟨b, 0, none⟩ (.int .i64 y.kind)).setCell ⟨b, 1, none⟩ (.string y.name)).setCell ⟨b, 2, none⟩ (.int .i64 y.line)).setCell ⟨b, 3, none⟩ (.int .i64 y.col)).setCell ⟨b, 4, none⟩ (.int .i64 y.init)).setCell ⟨b, 5, none⟩ nv2).setCell ⟨b, 6, none⟩ (.string y.role)).setCell ⟨b, 7, none⟩ (.string y.stage)).setCell ⟨b, 8, none⟩ (.string y.event)).setCell ⟨b, 9, none⟩ (.int .i64 y.times)).setCell ⟨b, 10, none⟩ iv2).setCell ⟨b, 11, none⟩ (.bool y.final)) b y nv2 iv2 := by
  unfold StB at h ⊢
  obtain ⟨w0, ew0⟩ : ∃ w0, w0 = w.setCell ⟨b, 0, none⟩ (.int .i64 y.kind) := ⟨_, rfl⟩
  have h0 : w0.heap[b]? = some (.cells #[.int .i64 y.kind, .string x.name, .int .i64 x.line, .int .i64 x.col, .int .i64 x.init, nv, .string x.role, .string x.stage, .string x.event, .int .i64 x.times, iv, .bool x.final] 37 (0, 0)) := by rw [ew0]; exact heap_setCell_same _ b 0 _ _ (.int .i64 y.kind) h
  obtain ⟨w1, ew1⟩ : ∃ w1, w1 = w0.setCell ⟨b, 1, none⟩ (.string y.name) := ⟨_, rfl⟩
  have h1 : w1.heap[b]? = some (.cells #[.int .i64 y.kind, .string y.name, .int .i64 x.line, .int .i64 x.col, .int .i64 x.init, nv, .string x.role, .string x.stage, .string x.event, .int .i64 x.times, iv, .bool x.final] 37 (0, 0)) := by rw [ew1]; exact heap_setCell_same _ b 1 _ _ (.string y.name) h0
  obtain ⟨w2, ew2⟩ : ∃ w2, w2 = w1.setCell ⟨b, 2, none⟩ (.int .i64 y.line) := ⟨_, rfl⟩
  have h2 : w2.heap[b]? = some (.cells #[.int .i64 y.kind, .string y.name, .int .i64 y.line, .int .i64 x.col, .int .i64 x.init, nv, .string x.role, .string x.stage, .string x.event, .int .i64 x.times, iv, .bool x.final] 37 (0, 0)) := by rw [ew2]; exact heap_setCell_same _ b 2 _ _ (.int .i64 y.line) h1
  obtain ⟨w3, ew3⟩ : ∃ w3, w3 = w2.setCell ⟨b, 3, none⟩ (.int .i64 y.col) := ⟨_, rfl⟩
  have h3 : w3.heap[b]? = some (.cells #[.int .i64 y.kind, .string y.name, .int .i64 y.line, .int .i64 y.col, .int .i64 x.init, nv, .string x.role, .string x.stage, .string x.event, .int .i64 x.times, iv, .bool x.final] 37 (0, 0)) := by rw [ew3]; exact heap_setCell_same _ b 3 _ _ (.int .i64 y.col) h2
  obtain ⟨w4, ew4⟩ : ∃ w4, w4 = w3.setCell ⟨b, 4, none⟩ (.int .i64 y.init) := ⟨_, rfl⟩
  have h4 : w4.heap[b]? = some (.cells #[.int .i64 y.kind, .string y.name, .int .i64 y.line, .int .i64 y.col, .int .i64 y.init, nv, .string x.role, .string x.stage, .string x.event, .int .i64 x.times, iv, .bool x.final] 37 (0, 0)) := by rw [ew4]; exact heap_setCell_same _ b 4 _ _ (.int .i64 y.init) h3
  obtain ⟨w5, ew5⟩ : ∃ w5, w5 = w4.setCell ⟨b, 5, none⟩ nv2 := ⟨_, rfl⟩
  have h5 : w5.heap[b]? = some (.cells #[.int .i64 y.kind, .string y.name, .int .i64 y.line, .int .i64 y.col, .int .i64 y.init, nv2, .string x.role, .string x.stage, .string x.event, .int .i64 x.times, iv, .bool x.final] 37 (0, 0)) := by rw [ew5]; exact heap_setCell_same _ b 5 _ _ nv2 h4
  obtain ⟨w6, ew6⟩ : ∃ w6, w6 = w5.setCell ⟨b, 6, none⟩ (.string y.role) := ⟨_, rfl⟩
  have h6 : w6.heap[b]? = some (.cells #[.int .i64 y.kind, .string y.name, .int .i64 y.line, .int .i64 y.col, .int .i64 y.init, nv2, .string y.role, .string x.stage, .string x.event, .int .i64 x.times, iv, .bool x.final] 37 (0, 0)) := by rw [ew6]; exact heap_setCell_same _ b 6 _ _ (.string y.role) h5
  obtain ⟨w7, ew7⟩ : ∃ w7, w7 = w6.setCell ⟨b, 7, none⟩ (.string y.stage) := ⟨_, rfl⟩
  have h7 : w7.heap[b]? = some (.cells #[.int .i64 y.kind, .string y.name, .int .i64 y.line, .int .i64 y.col, .int .i64 y.init, nv2, .string y.role, .string y.stage, .string x.event, .int .i64 x.times, iv, .bool x.final] 37 (0, 0)) := by rw [ew7]; exact heap_setCell_same _ b 7 _ _ (.string y.stage) h6
  obtain ⟨w8, ew8⟩ : ∃ w8, w8 = w7.setCell ⟨b, 8, none⟩ (.string y.event) := ⟨_, rfl⟩
  have h8 : w8.heap[b]? = some (.cells #[.int .i64 y.kind, .string y.name, .int .i64 y.line, .int .i64 y.col, .int .i64 y.init, nv2, .string y.role, .string y.stage, .string y.event, .int .i64 x.times, iv, .bool x.final] 37 (0, 0)) := by rw [ew8]; exact heap_setCell_same _ b 8 _ _ (.string y.event) h7
  obtain ⟨w9, ew9⟩ : ∃ w9, w9 = w8.setCell ⟨b, 9, none⟩ (.int .i64 y.times) := ⟨_, rfl⟩
  have h9 : w9.heap[b]? = some (.cells #[.int .i64 y.kind, .string y.name, .int .i64 y.line, .int .i64 y.col, .int .i64 y.init, nv2, .string y.role, .string y.stage, .string y.event, .int .i64 y.times, iv, .bool x.final] 37 (0, 0)) := by rw [ew9]; exact heap_setCell_same _ b 9 _ _ (.int .i64 y.times) h8
  obtain ⟨w10, ew10⟩ : ∃ w10, w10 = w9.setCell ⟨b, 10, none⟩ iv2 := ⟨_, rfl⟩
  have h10 : w10.heap[b]? = some (.cells #[.int .i64 y.kind, .string y.name, .int .i64 y.line, .int .i64 y.col, .int .i64 y.init, nv2, .string y.role, .string y.stage, .string y.event, .int .i64 y.times, iv2, .bool x.final] 37 (0, 0)) := by rw [ew10]; exact heap_setCell_same _ b 10 _ _ iv2 h9
  obtain ⟨w11, ew11⟩ : ∃ w11, w11 = w10.setCell ⟨b, 11, none⟩ (.bool y.final) := ⟨_, rfl⟩
  have h11 : w11.heap[b]? = some (.cells #[.int .i64 y.kind, .string y.name, .int .i64 y.line, .int .i64 y.col, .int .i64 y.init, nv2, .string y.role, .string y.stage, .string y.event, .int .i64 y.times, iv2, .bool y.final] 37 (0, 0)) := by rw [ew11]; exact heap_setCell_same _ b 11 _ _ (.bool y.final) h10
  rw [← ew0, ← ew1, ← ew2, ← ew3, ← ew4, ← ew5, ← ew6, ← ew7, ← ew8, ← ew9, ← ew10, ← ew11]
  exact h11
set_option maxHeartbeats 2000000 in
theorem StB.row {w : World} {b : Nat} {x : St} {nv iv : Value} {base n : Nat} {t : TypeId} {sz : Nat} {v : Value} {xs : List Value} (h : StB w b x nv iv) (hr : w.ownsRow base t sz v n xs) (ht : 37 ≠ t) (y : St) (nv2 iv2 : Value) : ((((((((((((w.setCell ⟨b, 0, none⟩ (.int .i64 y.kind)).setCell ⟨b, 1, none⟩ (.string y.name)).setCell ⟨b, 2, none⟩ (.int .i64 y.line)).setCell ⟨b, 3, none⟩ (.int .i64 y.col)).setCell ⟨b, 4, none⟩ (.int .i64 y.init)).setCell ⟨b, 5, none⟩ nv2).setCell ⟨b, 6, none⟩ (.string y.role)).setCell ⟨b, 7, none⟩ (.string y.stage)).setCell ⟨b, 8, none⟩ (.string y.event)).setCell ⟨b, 9, none⟩ (.int .i64 y.times)).setCell ⟨b, 10, none⟩ iv2).setCell ⟨b, 11, none⟩ (.bool y.final)).ownsRow base t sz v n xs := by
  unfold StB at h
  obtain ⟨w0, ew0⟩ : ∃ w0, w0 = w.setCell ⟨b, 0, none⟩ (.int .i64 y.kind) := ⟨_, rfl⟩
  have h0 : w0.heap[b]? = some (.cells #[.int .i64 y.kind, .string x.name, .int .i64 x.line, .int .i64 x.col, .int .i64 x.init, nv, .string x.role, .string x.stage, .string x.event, .int .i64 x.times, iv, .bool x.final] 37 (0, 0)) := by rw [ew0]; exact heap_setCell_same _ b 0 _ _ (.int .i64 y.kind) h
  obtain ⟨w1, ew1⟩ : ∃ w1, w1 = w0.setCell ⟨b, 1, none⟩ (.string y.name) := ⟨_, rfl⟩
  have h1 : w1.heap[b]? = some (.cells #[.int .i64 y.kind, .string y.name, .int .i64 x.line, .int .i64 x.col, .int .i64 x.init, nv, .string x.role, .string x.stage, .string x.event, .int .i64 x.times, iv, .bool x.final] 37 (0, 0)) := by rw [ew1]; exact heap_setCell_same _ b 1 _ _ (.string y.name) h0
  obtain ⟨w2, ew2⟩ : ∃ w2, w2 = w1.setCell ⟨b, 2, none⟩ (.int .i64 y.line) := ⟨_, rfl⟩
  have h2 : w2.heap[b]? = some (.cells #[.int .i64 y.kind, .string y.name, .int .i64 y.line, .int .i64 x.col, .int .i64 x.init, nv, .string x.role, .string x.stage, .string x.event, .int .i64 x.times, iv, .bool x.final] 37 (0, 0)) := by rw [ew2]; exact heap_setCell_same _ b 2 _ _ (.int .i64 y.line) h1
  obtain ⟨w3, ew3⟩ : ∃ w3, w3 = w2.setCell ⟨b, 3, none⟩ (.int .i64 y.col) := ⟨_, rfl⟩
  have h3 : w3.heap[b]? = some (.cells #[.int .i64 y.kind, .string y.name, .int .i64 y.line, .int .i64 y.col, .int .i64 x.init, nv, .string x.role, .string x.stage, .string x.event, .int .i64 x.times, iv, .bool x.final] 37 (0, 0)) := by rw [ew3]; exact heap_setCell_same _ b 3 _ _ (.int .i64 y.col) h2
  obtain ⟨w4, ew4⟩ : ∃ w4, w4 = w3.setCell ⟨b, 4, none⟩ (.int .i64 y.init) := ⟨_, rfl⟩
  have h4 : w4.heap[b]? = some (.cells #[.int .i64 y.kind, .string y.name, .int .i64 y.line, .int .i64 y.col, .int .i64 y.init, nv, .string x.role, .string x.stage, .string x.event, .int .i64 x.times, iv, .bool x.final] 37 (0, 0)) := by rw [ew4]; exact heap_setCell_same _ b 4 _ _ (.int .i64 y.init) h3
  obtain ⟨w5, ew5⟩ : ∃ w5, w5 = w4.setCell ⟨b, 5, none⟩ nv2 := ⟨_, rfl⟩
  have h5 : w5.heap[b]? = some (.cells #[.int .i64 y.kind, .string y.name, .int .i64 y.line, .int .i64 y.col, .int .i64 y.init, nv2, .string x.role, .string x.stage, .string x.event, .int .i64 x.times, iv, .bool x.final] 37 (0, 0)) := by rw [ew5]; exact heap_setCell_same _ b 5 _ _ nv2 h4
  obtain ⟨w6, ew6⟩ : ∃ w6, w6 = w5.setCell ⟨b, 6, none⟩ (.string y.role) := ⟨_, rfl⟩
  have h6 : w6.heap[b]? = some (.cells #[.int .i64 y.kind, .string y.name, .int .i64 y.line, .int .i64 y.col, .int .i64 y.init, nv2, .string y.role, .string x.stage, .string x.event, .int .i64 x.times, iv, .bool x.final] 37 (0, 0)) := by rw [ew6]; exact heap_setCell_same _ b 6 _ _ (.string y.role) h5
  obtain ⟨w7, ew7⟩ : ∃ w7, w7 = w6.setCell ⟨b, 7, none⟩ (.string y.stage) := ⟨_, rfl⟩
  have h7 : w7.heap[b]? = some (.cells #[.int .i64 y.kind, .string y.name, .int .i64 y.line, .int .i64 y.col, .int .i64 y.init, nv2, .string y.role, .string y.stage, .string x.event, .int .i64 x.times, iv, .bool x.final] 37 (0, 0)) := by rw [ew7]; exact heap_setCell_same _ b 7 _ _ (.string y.stage) h6
  obtain ⟨w8, ew8⟩ : ∃ w8, w8 = w7.setCell ⟨b, 8, none⟩ (.string y.event) := ⟨_, rfl⟩
  have h8 : w8.heap[b]? = some (.cells #[.int .i64 y.kind, .string y.name, .int .i64 y.line, .int .i64 y.col, .int .i64 y.init, nv2, .string y.role, .string y.stage, .string y.event, .int .i64 x.times, iv, .bool x.final] 37 (0, 0)) := by rw [ew8]; exact heap_setCell_same _ b 8 _ _ (.string y.event) h7
  obtain ⟨w9, ew9⟩ : ∃ w9, w9 = w8.setCell ⟨b, 9, none⟩ (.int .i64 y.times) := ⟨_, rfl⟩
  have h9 : w9.heap[b]? = some (.cells #[.int .i64 y.kind, .string y.name, .int .i64 y.line, .int .i64 y.col, .int .i64 y.init, nv2, .string y.role, .string y.stage, .string y.event, .int .i64 y.times, iv, .bool x.final] 37 (0, 0)) := by rw [ew9]; exact heap_setCell_same _ b 9 _ _ (.int .i64 y.times) h8
  obtain ⟨w10, ew10⟩ : ∃ w10, w10 = w9.setCell ⟨b, 10, none⟩ iv2 := ⟨_, rfl⟩
  have h10 : w10.heap[b]? = some (.cells #[.int .i64 y.kind, .string y.name, .int .i64 y.line, .int .i64 y.col, .int .i64 y.init, nv2, .string y.role, .string y.stage, .string y.event, .int .i64 y.times, iv2, .bool x.final] 37 (0, 0)) := by rw [ew10]; exact heap_setCell_same _ b 10 _ _ iv2 h9
  obtain ⟨w11, ew11⟩ : ∃ w11, w11 = w10.setCell ⟨b, 11, none⟩ (.bool y.final) := ⟨_, rfl⟩
  have h11 : w11.heap[b]? = some (.cells #[.int .i64 y.kind, .string y.name, .int .i64 y.line, .int .i64 y.col, .int .i64 y.init, nv2, .string y.role, .string y.stage, .string y.event, .int .i64 y.times, iv2, .bool y.final] 37 (0, 0)) := by rw [ew11]; exact heap_setCell_same _ b 11 _ _ (.bool y.final) h10
  have r0 : w0.ownsRow base t sz v n xs := by rw [ew0]; exact row_store hr h ht 0 (.int .i64 y.kind)
  have r1 : w1.ownsRow base t sz v n xs := by rw [ew1]; exact row_store r0 h0 ht 1 (.string y.name)
  have r2 : w2.ownsRow base t sz v n xs := by rw [ew2]; exact row_store r1 h1 ht 2 (.int .i64 y.line)
  have r3 : w3.ownsRow base t sz v n xs := by rw [ew3]; exact row_store r2 h2 ht 3 (.int .i64 y.col)
  have r4 : w4.ownsRow base t sz v n xs := by rw [ew4]; exact row_store r3 h3 ht 4 (.int .i64 y.init)
  have r5 : w5.ownsRow base t sz v n xs := by rw [ew5]; exact row_store r4 h4 ht 5 nv2
  have r6 : w6.ownsRow base t sz v n xs := by rw [ew6]; exact row_store r5 h5 ht 6 (.string y.role)
  have r7 : w7.ownsRow base t sz v n xs := by rw [ew7]; exact row_store r6 h6 ht 7 (.string y.stage)
  have r8 : w8.ownsRow base t sz v n xs := by rw [ew8]; exact row_store r7 h7 ht 8 (.string y.event)
  have r9 : w9.ownsRow base t sz v n xs := by rw [ew9]; exact row_store r8 h8 ht 9 (.int .i64 y.times)
  have r10 : w10.ownsRow base t sz v n xs := by rw [ew10]; exact row_store r9 h9 ht 10 iv2
  have r11 : w11.ownsRow base t sz v n xs := by rw [ew11]; exact row_store r10 h10 ht 11 (.bool y.final)
  rw [← ew0, ← ew1, ← ew2, ← ew3, ← ew4, ← ew5, ← ew6, ← ew7, ← ew8, ← ew9, ← ew10, ← ew11]
  exact r11
theorem below_st {w0 w : World} {B k : Nat} (h : Below B w0 w) (hk : B ≤ k) (v0 v1 v2 v3 v4 v5 v6 v7 v8 v9 v10 v11 : Value) : Below B w0 ((((((((((((w.setCell ⟨k, 0, none⟩ v0).setCell ⟨k, 1, none⟩ v1).setCell ⟨k, 2, none⟩ v2).setCell ⟨k, 3, none⟩ v3).setCell ⟨k, 4, none⟩ v4).setCell ⟨k, 5, none⟩ v5).setCell ⟨k, 6, none⟩ v6).setCell ⟨k, 7, none⟩ v7).setCell ⟨k, 8, none⟩ v8).setCell ⟨k, 9, none⟩ v9).setCell ⟨k, 10, none⟩ v10).setCell ⟨k, 11, none⟩ v11) :=
  (((((((((((h.setCell (p := ⟨k, 0, none⟩) hk _).setCell (p := ⟨k, 1, none⟩) hk _).setCell (p := ⟨k, 2, none⟩) hk _).setCell (p := ⟨k, 3, none⟩) hk _).setCell (p := ⟨k, 4, none⟩) hk _).setCell (p := ⟨k, 5, none⟩) hk _).setCell (p := ⟨k, 6, none⟩) hk _).setCell (p := ⟨k, 7, none⟩) hk _).setCell (p := ⟨k, 8, none⟩) hk _).setCell (p := ⟨k, 9, none⟩) hk _).setCell (p := ⟨k, 10, none⟩) hk _).setCell (p := ⟨k, 11, none⟩) hk _

/-- what One leaves -/
def OnePost (w : World) (p : DR) (e : Ending) (w' : World) : Prop :=
  match p with
  | .ok x a => ∃ nv iv, e = .returned (.tuple #[stV x nv iv, .int .i64 a, .agg #[.int .i64 0, .int .i64 0, .int .i64 0]]) ∧ w'.ownsRow w.heap.size 9 1 nv x.names.length (strV x.names) ∧ w'.ownsRow w.heap.size 87 9 iv x.ifs.length (itFlat x.ifs) ∧ Below w.heap.size w w'
  | .bad er l c => e = .returned (.tuple #[stV noSt (.slice none 0 0) (.slice none 0 0), .int .i64 0, .agg #[.int .i64 er, .int .i64 l, .int .i64 c]]) ∧ Below w.heap.size w w'

/-- what stands there when One begins -/
structure OneS (w W : World) (B : Nat) (lv nv iv : Value) (T : List Tk) (r : RS) : Prop where
  rd : Dr W B (w.heap.size + 2) lv nv iv T r
  st : StB W w.heap.size noSt (.slice none 0 0) (.slice none 0 0)
  ft : FtB W (w.heap.size + 1) 0 0 0
  lo : Below w.heap.size w W
  eq : B = w.heap.size
theorem OneS.then {w W W2 : World} {B : Nat} {lv nv iv : Value} {T : List Tk} {r : RS} (h : OneS w W B lv nv iv T r) (hb : Below W.heap.size W W2) : OneS w W2 B lv nv iv T r :=
  ⟨h.rd.keep hb (by rw [h.eq]; exact h.lo.size), h.st.below hb, h.ft.below hb, h.lo.trans (hb.mono h.lo.size), h.eq⟩
theorem OneS.next {w W W2 : World} {B : Nat} {lv nv iv nv2 iv2 : Value} {T : List Tk} {r r2 : RS} (h : OneS w W B lv nv iv T r) (k : DT W W2 B (w.heap.size + 2) lv nv2 iv2 T r2) : OneS w W2 B lv nv2 iv2 T r2 :=
  ⟨k.rd, h.st.grown k.gb (by omega), h.ft.grown k.gb (by omega), ⟨k.gb.os.trans h.lo.os, k.gb.tape.trans h.lo.tape, k.gb.output.trans h.lo.output, Nat.le_trans h.lo.size k.gb.size, fun q hq => (k.gb.block q (Nat.lt_of_lt_of_le hq h.lo.size) (fun e => by have := Option.some.inj e; omega)).trans (h.lo.block q hq)⟩, h.eq⟩
theorem OneS.size {w W : World} {B : Nat} {lv nv iv : Value} {T : List Tk} {r : RS} (h : OneS w W B lv nv iv T r) : B ≤ W.heap.size := by rw [h.eq]; exact h.lo.size

/-- a fault, told -/
theorem OneS.bad {w W : World} {B : Nat} {lv nv iv : Value} {T : List Tk} {r : RS} (h : OneS w W B lv nv iv T r) (e l c : Int) : Hid (StB (((((((((((((((W.setCell ⟨w.heap.size, 0, none⟩ (.int .i64 noSt.kind)).setCell ⟨w.heap.size, 1, none⟩ (.string noSt.name)).setCell ⟨w.heap.size, 2, none⟩ (.int .i64 noSt.line)).setCell ⟨w.heap.size, 3, none⟩ (.int .i64 noSt.col)).setCell ⟨w.heap.size, 4, none⟩ (.int .i64 noSt.init)).setCell ⟨w.heap.size, 5, none⟩ ((.slice none 0 0))).setCell ⟨w.heap.size, 6, none⟩ (.string noSt.role)).setCell ⟨w.heap.size, 7, none⟩ (.string noSt.stage)).setCell ⟨w.heap.size, 8, none⟩ (.string noSt.event)).setCell ⟨w.heap.size, 9, none⟩ (.int .i64 noSt.times)).setCell ⟨w.heap.size, 10, none⟩ ((.slice none 0 0))).setCell ⟨w.heap.size, 11, none⟩ (.bool noSt.final)).setCell ⟨(w.heap.size + 1), 0, none⟩ (.int .i64 e)).setCell ⟨(w.heap.size + 1), 1, none⟩ (.int .i64 l)).setCell ⟨(w.heap.size + 1), 2, none⟩ (.int .i64 c)) w.heap.size noSt (.slice none 0 0) (.slice none 0 0) ∧ FtB (((((((((((((((W.setCell ⟨w.heap.size, 0, none⟩ (.int .i64 noSt.kind)).setCell ⟨w.heap.size, 1, none⟩ (.string noSt.name)).setCell ⟨w.heap.size, 2, none⟩ (.int .i64 noSt.line)).setCell ⟨w.heap.size, 3, none⟩ (.int .i64 noSt.col)).setCell ⟨w.heap.size, 4, none⟩ (.int .i64 noSt.init)).setCell ⟨w.heap.size, 5, none⟩ ((.slice none 0 0))).setCell ⟨w.heap.size, 6, none⟩ (.string noSt.role)).setCell ⟨w.heap.size, 7, none⟩ (.string noSt.stage)).setCell ⟨w.heap.size, 8, none⟩ (.string noSt.event)).setCell ⟨w.heap.size, 9, none⟩ (.int .i64 noSt.times)).setCell ⟨w.heap.size, 10, none⟩ ((.slice none 0 0))).setCell ⟨w.heap.size, 11, none⟩ (.bool noSt.final)).setCell ⟨(w.heap.size + 1), 0, none⟩ (.int .i64 e)).setCell ⟨(w.heap.size + 1), 1, none⟩ (.int .i64 l)).setCell ⟨(w.heap.size + 1), 2, none⟩ (.int .i64 c)) (w.heap.size + 1) e l c ∧ Below w.heap.size w (((((((((((((((W.setCell ⟨w.heap.size, 0, none⟩ (.int .i64 noSt.kind)).setCell ⟨w.heap.size, 1, none⟩ (.string noSt.name)).setCell ⟨w.heap.size, 2, none⟩ (.int .i64 noSt.line)).setCell ⟨w.heap.size, 3, none⟩ (.int .i64 noSt.col)).setCell ⟨w.heap.size, 4, none⟩ (.int .i64 noSt.init)).setCell ⟨w.heap.size, 5, none⟩ ((.slice none 0 0))).setCell ⟨w.heap.size, 6, none⟩ (.string noSt.role)).setCell ⟨w.heap.size, 7, none⟩ (.string noSt.stage)).setCell ⟨w.heap.size, 8, none⟩ (.string noSt.event)).setCell ⟨w.heap.size, 9, none⟩ (.int .i64 noSt.times)).setCell ⟨w.heap.size, 10, none⟩ ((.slice none 0 0))).setCell ⟨w.heap.size, 11, none⟩ (.bool noSt.final)).setCell ⟨(w.heap.size + 1), 0, none⟩ (.int .i64 e)).setCell ⟨(w.heap.size + 1), 1, none⟩ (.int .i64 l)).setCell ⟨(w.heap.size + 1), 2, none⟩ (.int .i64 c))) := by
  have hs := h.st.stored noSt (.slice none 0 0) (.slice none 0 0)
  have hf : FtB ((((((((((((W.setCell ⟨w.heap.size, 0, none⟩ (.int .i64 noSt.kind)).setCell ⟨w.heap.size, 1, none⟩ (.string noSt.name)).setCell ⟨w.heap.size, 2, none⟩ (.int .i64 noSt.line)).setCell ⟨w.heap.size, 3, none⟩ (.int .i64 noSt.col)).setCell ⟨w.heap.size, 4, none⟩ (.int .i64 noSt.init)).setCell ⟨w.heap.size, 5, none⟩ ((.slice none 0 0))).setCell ⟨w.heap.size, 6, none⟩ (.string noSt.role)).setCell ⟨w.heap.size, 7, none⟩ (.string noSt.stage)).setCell ⟨w.heap.size, 8, none⟩ (.string noSt.event)).setCell ⟨w.heap.size, 9, none⟩ (.int .i64 noSt.times)).setCell ⟨w.heap.size, 10, none⟩ ((.slice none 0 0))).setCell ⟨w.heap.size, 11, none⟩ (.bool noSt.final)) (w.heap.size + 1) 0 0 0 := ((((((((((((h.ft).over1 (by omega) _).over1 (by omega) _).over1 (by omega) _).over1 (by omega) _).over1 (by omega) _).over1 (by omega) _).over1 (by omega) _).over1 (by omega) _).over1 (by omega) _).over1 (by omega) _).over1 (by omega) _).over1 (by omega) _
  exact ⟨((hs.over (by omega) _).over (by omega) _).over (by omega) _, hf.stored e l c, below_fault (below_st h.lo (Nat.le_refl _) _ _ _ _ _ _ _ _ _ _ _ _) (by omega) _ _ _⟩

end Go.Proofs.YthlofmnmacpogaaGreatDoor

namespace Go.Proofs.YthlofmnmacpogaaGreatDoor
open Go.RowKit

def rs0 (i : Int) : RS := ⟨i, noSt, 0, 0, 0⟩
theorem one_results {W : World} {tmps : Array Value} {b f : Nat} {x : St} {nv iv : Value} {e l c : Int} (hs : StB W b x nv iv) (hf : FtB W f e l c) (at_ : Int) (h4 : tmps[4]?.getD undef = .pointer (some ⟨b, 0, none⟩)) (h5 : tmps[5]?.getD undef = .int .i64 at_) (h6 : tmps[6]?.getD undef = .pointer (some ⟨f, 0, none⟩)) :
    (results Tryz.f11 tmps).run Tryz.prog W = .ok (.tuple #[stV x nv iv, .int .i64 at_, .agg #[.int .i64 e, .int .i64 l, .int .i64 c]]) W := by
  obtain ⟨q0, q1, q2, q3, q4, q5, q6, q7, q8, q9, q10, q11⟩ := hs.facts
  obtain ⟨u0, u1, u2⟩ := hf.facts
  simp [results, Tryz.results11, go_sem, h4, h5, h6, q0, q1, q2, q3, q4, q5, q6, q7, q8, q9, q10, q11, u0, u1, u2, stV]
theorem OneS.start {w : World} {lv : Value} {T : List Tk} (h : TkIn w w.heap.size lv T) (i : Int) :
    OneS w (((w.alloc (.cells #[.int .i64 0, .string ⟨#[]⟩, .int .i64 0, .int .i64 0, .int .i64 0, .slice none 0 0, .string ⟨#[]⟩, .string ⟨#[]⟩, .string ⟨#[]⟩, .int .i64 0, .slice none 0 0, .bool false] 37)).alloc (.cells #[.int .i64 0, .int .i64 0, .int .i64 0] 28)).alloc (.cells #[lv, .int .i64 i, .int .i64 0, .string ⟨#[]⟩, .int .i64 0, .int .i64 0, .int .i64 0, .slice none 0 0, .string ⟨#[]⟩, .string ⟨#[]⟩, .string ⟨#[]⟩, .int .i64 0, .slice none 0 0, .bool false, .int .i64 0, .int .i64 0, .int .i64 0] 53)) w.heap.size lv (.slice none 0 0) (.slice none 0 0) T (rs0 i) := by
  have hs1 : (w.alloc (.cells #[.int .i64 0, .string ⟨#[]⟩, .int .i64 0, .int .i64 0, .int .i64 0, .slice none 0 0, .string ⟨#[]⟩, .string ⟨#[]⟩, .string ⟨#[]⟩, .int .i64 0, .slice none 0 0, .bool false] 37)).heap.size = w.heap.size + 1 := by simp
  have hs2 : ((w.alloc (.cells #[.int .i64 0, .string ⟨#[]⟩, .int .i64 0, .int .i64 0, .int .i64 0, .slice none 0 0, .string ⟨#[]⟩, .string ⟨#[]⟩, .string ⟨#[]⟩, .int .i64 0, .slice none 0 0, .bool false] 37)).alloc (.cells #[.int .i64 0, .int .i64 0, .int .i64 0] 28)).heap.size = w.heap.size + 2 := by simp
  have b1 : Below w.heap.size w (w.alloc (.cells #[.int .i64 0, .string ⟨#[]⟩, .int .i64 0, .int .i64 0, .int .i64 0, .slice none 0 0, .string ⟨#[]⟩, .string ⟨#[]⟩, .string ⟨#[]⟩, .int .i64 0, .slice none 0 0, .bool false] 37)) := (Below.refl _ w).alloc (Nat.le_refl _) _
  have b2 : Below w.heap.size w ((w.alloc (.cells #[.int .i64 0, .string ⟨#[]⟩, .int .i64 0, .int .i64 0, .int .i64 0, .slice none 0 0, .string ⟨#[]⟩, .string ⟨#[]⟩, .string ⟨#[]⟩, .int .i64 0, .slice none 0 0, .bool false] 37)).alloc (.cells #[.int .i64 0, .int .i64 0, .int .i64 0] 28)) := b1.alloc (by omega) _
  have b3 : Below w.heap.size w (((w.alloc (.cells #[.int .i64 0, .string ⟨#[]⟩, .int .i64 0, .int .i64 0, .int .i64 0, .slice none 0 0, .string ⟨#[]⟩, .string ⟨#[]⟩, .string ⟨#[]⟩, .int .i64 0, .slice none 0 0, .bool false] 37)).alloc (.cells #[.int .i64 0, .int .i64 0, .int .i64 0] 28)).alloc (.cells #[lv, .int .i64 i, .int .i64 0, .string ⟨#[]⟩, .int .i64 0, .int .i64 0, .int .i64 0, .slice none 0 0, .string ⟨#[]⟩, .string ⟨#[]⟩, .string ⟨#[]⟩, .int .i64 0, .slice none 0 0, .bool false, .int .i64 0, .int .i64 0, .int .i64 0] 53)) := b2.alloc (by omega) _
  have s0 : StB (w.alloc (.cells #[.int .i64 0, .string ⟨#[]⟩, .int .i64 0, .int .i64 0, .int .i64 0, .slice none 0 0, .string ⟨#[]⟩, .string ⟨#[]⟩, .string ⟨#[]⟩, .int .i64 0, .slice none 0 0, .bool false] 37)) w.heap.size noSt (.slice none 0 0) (.slice none 0 0) := heap_alloc_new w _
  have f0 : FtB ((w.alloc (.cells #[.int .i64 0, .string ⟨#[]⟩, .int .i64 0, .int .i64 0, .int .i64 0, .slice none 0 0, .string ⟨#[]⟩, .string ⟨#[]⟩, .string ⟨#[]⟩, .int .i64 0, .slice none 0 0, .bool false] 37)).alloc (.cells #[.int .i64 0, .int .i64 0, .int .i64 0] 28)) (w.heap.size + 1) 0 0 0 := by have e := heap_alloc_new (w.alloc (.cells #[.int .i64 0, .string ⟨#[]⟩, .int .i64 0, .int .i64 0, .int .i64 0, .slice none 0 0, .string ⟨#[]⟩, .string ⟨#[]⟩, .string ⟨#[]⟩, .int .i64 0, .slice none 0 0, .bool false] 37)) (.cells #[.int .i64 0, .int .i64 0, .int .i64 0] 28); rw [hs1] at e; exact e
  have r0 : (((w.alloc (.cells #[.int .i64 0, .string ⟨#[]⟩, .int .i64 0, .int .i64 0, .int .i64 0, .slice none 0 0, .string ⟨#[]⟩, .string ⟨#[]⟩, .string ⟨#[]⟩, .int .i64 0, .slice none 0 0, .bool false] 37)).alloc (.cells #[.int .i64 0, .int .i64 0, .int .i64 0] 28)).alloc (.cells #[lv, .int .i64 i, .int .i64 0, .string ⟨#[]⟩, .int .i64 0, .int .i64 0, .int .i64 0, .slice none 0 0, .string ⟨#[]⟩, .string ⟨#[]⟩, .string ⟨#[]⟩, .int .i64 0, .slice none 0 0, .bool false, .int .i64 0, .int .i64 0, .int .i64 0] 53)).heap[w.heap.size + 2]? = some (.cells #[lv, .int .i64 i, .int .i64 0, .string ⟨#[]⟩, .int .i64 0, .int .i64 0, .int .i64 0, .slice none 0 0, .string ⟨#[]⟩, .string ⟨#[]⟩, .string ⟨#[]⟩, .int .i64 0, .slice none 0 0, .bool false, .int .i64 0, .int .i64 0, .int .i64 0] 53) := by have e := heap_alloc_new ((w.alloc (.cells #[.int .i64 0, .string ⟨#[]⟩, .int .i64 0, .int .i64 0, .int .i64 0, .slice none 0 0, .string ⟨#[]⟩, .string ⟨#[]⟩, .string ⟨#[]⟩, .int .i64 0, .slice none 0 0, .bool false] 37)).alloc (.cells #[.int .i64 0, .int .i64 0, .int .i64 0] 28)) (.cells #[lv, .int .i64 i, .int .i64 0, .string ⟨#[]⟩, .int .i64 0, .int .i64 0, .int .i64 0, .slice none 0 0, .string ⟨#[]⟩, .string ⟨#[]⟩, .string ⟨#[]⟩, .int .i64 0, .slice none 0 0, .bool false, .int .i64 0, .int .i64 0, .int .i64 0] 53); rw [hs2] at e; exact e
  exact ⟨⟨r0, by omega, h.below b3, World.ownsRow_nil _ _ _ _, World.ownsRow_nil _ _ _ _⟩, (s0.alloc _).alloc _, f0.alloc _, b3, rfl⟩
theorem OneS.alloc {w W : World} {B : Nat} {lv nv iv : Value} {T : List Tk} {r : RS} (h : OneS w W B lv nv iv T r) (o : Obj) : OneS w (W.alloc o) B lv nv iv T r :=
  h.then ((Below.refl _ W).alloc (Nat.le_refl _) o)
theorem OneS.drew {w W : World} {B : Nat} {lv nv iv : Value} {T : List Tk} {r : RS} (h : OneS w W B lv nv iv T r) : OneS w W.drew B lv nv iv T r :=
  ⟨h.rd.drew, h.st.drew, h.ft.drew, h.lo.drew, h.eq⟩

/-- a statement, told -/
theorem OneS.good {w W : World} {B : Nat} {lv nv iv : Value} {T : List Tk} {r : RS} (h : OneS w W B lv nv iv T r) : Hid (StB (((((((((((((((W.setCell ⟨w.heap.size, 0, none⟩ (.int .i64 r.x.kind)).setCell ⟨w.heap.size, 1, none⟩ (.string r.x.name)).setCell ⟨w.heap.size, 2, none⟩ (.int .i64 r.x.line)).setCell ⟨w.heap.size, 3, none⟩ (.int .i64 r.x.col)).setCell ⟨w.heap.size, 4, none⟩ (.int .i64 r.x.init)).setCell ⟨w.heap.size, 5, none⟩ nv).setCell ⟨w.heap.size, 6, none⟩ (.string r.x.role)).setCell ⟨w.heap.size, 7, none⟩ (.string r.x.stage)).setCell ⟨w.heap.size, 8, none⟩ (.string r.x.event)).setCell ⟨w.heap.size, 9, none⟩ (.int .i64 r.x.times)).setCell ⟨w.heap.size, 10, none⟩ iv).setCell ⟨w.heap.size, 11, none⟩ (.bool r.x.final)).setCell ⟨(w.heap.size + 1), 0, none⟩ (.int .i64 0)).setCell ⟨(w.heap.size + 1), 1, none⟩ (.int .i64 0)).setCell ⟨(w.heap.size + 1), 2, none⟩ (.int .i64 0)) w.heap.size r.x nv iv ∧ FtB (((((((((((((((W.setCell ⟨w.heap.size, 0, none⟩ (.int .i64 r.x.kind)).setCell ⟨w.heap.size, 1, none⟩ (.string r.x.name)).setCell ⟨w.heap.size, 2, none⟩ (.int .i64 r.x.line)).setCell ⟨w.heap.size, 3, none⟩ (.int .i64 r.x.col)).setCell ⟨w.heap.size, 4, none⟩ (.int .i64 r.x.init)).setCell ⟨w.heap.size, 5, none⟩ nv).setCell ⟨w.heap.size, 6, none⟩ (.string r.x.role)).setCell ⟨w.heap.size, 7, none⟩ (.string r.x.stage)).setCell ⟨w.heap.size, 8, none⟩ (.string r.x.event)).setCell ⟨w.heap.size, 9, none⟩ (.int .i64 r.x.times)).setCell ⟨w.heap.size, 10, none⟩ iv).setCell ⟨w.heap.size, 11, none⟩ (.bool r.x.final)).setCell ⟨(w.heap.size + 1), 0, none⟩ (.int .i64 0)).setCell ⟨(w.heap.size + 1), 1, none⟩ (.int .i64 0)).setCell ⟨(w.heap.size + 1), 2, none⟩ (.int .i64 0)) (w.heap.size + 1) 0 0 0 ∧ (((((((((((((((W.setCell ⟨w.heap.size, 0, none⟩ (.int .i64 r.x.kind)).setCell ⟨w.heap.size, 1, none⟩ (.string r.x.name)).setCell ⟨w.heap.size, 2, none⟩ (.int .i64 r.x.line)).setCell ⟨w.heap.size, 3, none⟩ (.int .i64 r.x.col)).setCell ⟨w.heap.size, 4, none⟩ (.int .i64 r.x.init)).setCell ⟨w.heap.size, 5, none⟩ nv).setCell ⟨w.heap.size, 6, none⟩ (.string r.x.role)).setCell ⟨w.heap.size, 7, none⟩ (.string r.x.stage)).setCell ⟨w.heap.size, 8, none⟩ (.string r.x.event)).setCell ⟨w.heap.size, 9, none⟩ (.int .i64 r.x.times)).setCell ⟨w.heap.size, 10, none⟩ iv).setCell ⟨w.heap.size, 11, none⟩ (.bool r.x.final)).setCell ⟨(w.heap.size + 1), 0, none⟩ (.int .i64 0)).setCell ⟨(w.heap.size + 1), 1, none⟩ (.int .i64 0)).setCell ⟨(w.heap.size + 1), 2, none⟩ (.int .i64 0)).ownsRow w.heap.size 9 1 nv r.x.names.length (strV r.x.names) ∧ (((((((((((((((W.setCell ⟨w.heap.size, 0, none⟩ (.int .i64 r.x.kind)).setCell ⟨w.heap.size, 1, none⟩ (.string r.x.name)).setCell ⟨w.heap.size, 2, none⟩ (.int .i64 r.x.line)).setCell ⟨w.heap.size, 3, none⟩ (.int .i64 r.x.col)).setCell ⟨w.heap.size, 4, none⟩ (.int .i64 r.x.init)).setCell ⟨w.heap.size, 5, none⟩ nv).setCell ⟨w.heap.size, 6, none⟩ (.string r.x.role)).setCell ⟨w.heap.size, 7, none⟩ (.string r.x.stage)).setCell ⟨w.heap.size, 8, none⟩ (.string r.x.event)).setCell ⟨w.heap.size, 9, none⟩ (.int .i64 r.x.times)).setCell ⟨w.heap.size, 10, none⟩ iv).setCell ⟨w.heap.size, 11, none⟩ (.bool r.x.final)).setCell ⟨(w.heap.size + 1), 0, none⟩ (.int .i64 0)).setCell ⟨(w.heap.size + 1), 1, none⟩ (.int .i64 0)).setCell ⟨(w.heap.size + 1), 2, none⟩ (.int .i64 0)).ownsRow w.heap.size 87 9 iv r.x.ifs.length (itFlat r.x.ifs) ∧ Below w.heap.size w (((((((((((((((W.setCell ⟨w.heap.size, 0, none⟩ (.int .i64 r.x.kind)).setCell ⟨w.heap.size, 1, none⟩ (.string r.x.name)).setCell ⟨w.heap.size, 2, none⟩ (.int .i64 r.x.line)).setCell ⟨w.heap.size, 3, none⟩ (.int .i64 r.x.col)).setCell ⟨w.heap.size, 4, none⟩ (.int .i64 r.x.init)).setCell ⟨w.heap.size, 5, none⟩ nv).setCell ⟨w.heap.size, 6, none⟩ (.string r.x.role)).setCell ⟨w.heap.size, 7, none⟩ (.string r.x.stage)).setCell ⟨w.heap.size, 8, none⟩ (.string r.x.event)).setCell ⟨w.heap.size, 9, none⟩ (.int .i64 r.x.times)).setCell ⟨w.heap.size, 10, none⟩ iv).setCell ⟨w.heap.size, 11, none⟩ (.bool r.x.final)).setCell ⟨(w.heap.size + 1), 0, none⟩ (.int .i64 0)).setCell ⟨(w.heap.size + 1), 1, none⟩ (.int .i64 0)).setCell ⟨(w.heap.size + 1), 2, none⟩ (.int .i64 0))) := by
  have hs := h.st.stored r.x nv iv
  have hf : FtB ((((((((((((W.setCell ⟨w.heap.size, 0, none⟩ (.int .i64 r.x.kind)).setCell ⟨w.heap.size, 1, none⟩ (.string r.x.name)).setCell ⟨w.heap.size, 2, none⟩ (.int .i64 r.x.line)).setCell ⟨w.heap.size, 3, none⟩ (.int .i64 r.x.col)).setCell ⟨w.heap.size, 4, none⟩ (.int .i64 r.x.init)).setCell ⟨w.heap.size, 5, none⟩ nv).setCell ⟨w.heap.size, 6, none⟩ (.string r.x.role)).setCell ⟨w.heap.size, 7, none⟩ (.string r.x.stage)).setCell ⟨w.heap.size, 8, none⟩ (.string r.x.event)).setCell ⟨w.heap.size, 9, none⟩ (.int .i64 r.x.times)).setCell ⟨w.heap.size, 10, none⟩ iv).setCell ⟨w.heap.size, 11, none⟩ (.bool r.x.final)) (w.heap.size + 1) 0 0 0 := ((((((((((((h.ft).over1 (by omega) _).over1 (by omega) _).over1 (by omega) _).over1 (by omega) _).over1 (by omega) _).over1 (by omega) _).over1 (by omega) _).over1 (by omega) _).over1 (by omega) _).over1 (by omega) _).over1 (by omega) _).over1 (by omega) _
  have hn := h.st.row h.rd.nm (by decide) r.x nv iv
  have hi := h.st.row h.rd.it (by decide) r.x nv iv
  have eB := h.eq
  subst eB
  exact ⟨((hs.over (by omega) _).over (by omega) _).over (by omega) _, hf.stored 0 0 0, hf.row hn (by decide) 0 0 0, hf.row hi (by decide) 0 0 0, below_fault (below_st h.lo (Nat.le_refl _) _ _ _ _ _ _ _ _ _ _ _ _) (by omega) _ _ _⟩

theorem tk_in {T : List Tk} {i : Int} (h : (tkAt T i).kind ≠ 5) : 0 ≤ i ∧ i < (T.length : Int) := by
  unfold tkAt at h
  split at h
  · exact absurd rfl h
  · refine ⟨by omega, ?_⟩
    refine Classical.byContradiction fun hn => h ?_
    rw [List.getElem?_eq_none (by omega)]
    rfl

set_option maxRecDepth 100000 in
set_option maxHeartbeats 8000000 in
theorem one_kind {w : World} {lv : Value} {T : List Tk} (h : TkIn w w.heap.size lv T) (i : Int) (hk : (tkAt T i).kind ≠ 2) :
    Calls Tryz.prog 11 #[lv, .int .i64 i] w fun e w' => OnePost w (oneD T i) e w' := by
  have HO := Lib.hid (show oneD T i = .bad 4 (tkAt T i).line (tkAt T i).col by unfold oneD; rw [if_pos (.inl hk)])
  have HS0 := Lib.hid (OneS.start h i)
  have hsz0 : (((w.alloc (.cells #[.int .i64 0, .string ⟨#[]⟩, .int .i64 0, .int .i64 0, .int .i64 0, .slice none 0 0, .string ⟨#[]⟩, .string ⟨#[]⟩, .string ⟨#[]⟩, .int .i64 0, .slice none 0 0, .bool false] 37)).alloc (.cells #[.int .i64 0, .int .i64 0, .int .i64 0] 28)).alloc (.cells #[lv, .int .i64 i, .int .i64 0, .string ⟨#[]⟩, .int .i64 0, .int .i64 0, .int .i64 0, .slice none 0 0, .string ⟨#[]⟩, .string ⟨#[]⟩, .string ⟨#[]⟩, .int .i64 0, .slice none 0 0, .bool false, .int .i64 0, .int .i64 0, .int .i64 0] 53)).heap.size = w.heap.size + 3 := by simp
  have HZ0 := Lib.hid hsz0
  obtain ⟨x, hx⟩ : ∃ x, tkAt T i = x := ⟨_, rfl⟩
  have HX := Lib.hid hx
  obtain ⟨ad, cap, rfl, -, -⟩ := h
  clear hx hsz0
  go_enter Tryz.func11, Tryz.ntmps11
  go_wp2_with fail
  refine (dnow_any HS0.out.rd).mono ?_
  rintro en w1 ⟨rfl, hb1⟩
  rw [show tkAt T (rs0 i).i = x from HX.out]
  unfold tokV
  have HS1 := Lib.hid ((HS0.out.then hb1).alloc (.cells #[.int .i64 x.kind, .string x.text, .int .i64 x.num, .int .i64 x.line, .int .i64 x.col] 48))
  have HT := Lib.hid (show TkB (w1.alloc (.cells #[.int .i64 x.kind, .string x.text, .int .i64 x.num, .int .i64 x.line, .int .i64 x.col] 48)) w1.heap.size x from heap_alloc_new w1 _)
  have hsz1 : w.heap.size + 3 ≤ w1.heap.size := by rw [← HZ0.out]; exact hb1.size
  have HZ1 := Lib.hid (show (w1.alloc (.cells #[.int .i64 x.kind, .string x.text, .int .i64 x.num, .int .i64 x.line, .int .i64 x.col] 48)).heap.size = w1.heap.size + 1 by simp)
  clear hb1
  obtain ⟨t0, t1, t2, t3, t4⟩ := HT.out.facts
  go_wp2_with fail
  refine (drule_any x.text _).mono ?_
  rintro en w2 ⟨rfl, hw⟩
  rw [hw]
  clear hw
  have hkb : (x.kind != 2) = true := by have hk := hk; rw [show tkAt T i = x from HX.out] at hk; simpa using hk
  clear hk
  go_wp2_with fail
  refine (dfail_any HS1.out.rd HS1.out.size 4).mono ?_
  rintro en w3 ⟨rfl, hc⟩
  have HS3 := Lib.hid (HS1.out.next hc)
  clear hc
  have hf : failD T 4 (rs0 i) = { rs0 i with er := 4, line := x.line, col := x.col } := by unfold failD; rw [if_pos (show (rs0 i).er = 0 from rfl), show tkAt T (rs0 i).i = x from HX.out]
  unfold Hid at HS3
  rw [hf] at HS3
  replace HS3 := Lib.hid HS3
  clear hf
  obtain ⟨_, _, _, _, _, _, _, _, _, _, _, _, _, _, c14, c15, c16⟩ := HS3.out.rd.facts
  obtain ⟨a0, a1, a2, a3, a4, a5, a6, a7, a8, a9, a10, a11⟩ := HS3.out.st.facts
  obtain ⟨b0, b1, b2, b3, b4, b5, b6, b7, b8, b9, b10, b11⟩ := HS3.out.st.free
  obtain ⟨d0, d1, d2⟩ := HS3.out.ft.facts
  obtain ⟨g0, g1, g2⟩ := HS3.out.ft.free
  have HBD := Lib.hid (HS3.out.bad 4 x.line x.col)
  go_wp2
  go_region
  go_wp2
  refine bodyPost_ret (one_results HBD.out.1.drew HBD.out.2.1.drew 0 rfl rfl rfl) rfl ?_
  rw [HO.out, show tkAt T i = x from HX.out]
  exact ⟨rfl, HBD.out.2.2.drew⟩

set_option maxRecDepth 100000 in
set_option maxHeartbeats 8000000 in
theorem one_none {w : World} {lv : Value} {T : List Tk} (h : TkIn w w.heap.size lv T) (i : Int) (hk : (tkAt T i).kind = 2) (hkk : kindN (tkAt T i).text = 0) :
    Calls Tryz.prog 11 #[lv, .int .i64 i] w fun e w' => OnePost w (oneD T i) e w' := by
  have HO := Lib.hid (show oneD T i = .bad 4 (tkAt T i).line (tkAt T i).col by unfold oneD; rw [if_pos (.inr hkk)])
  have HS0 := Lib.hid (OneS.start h i)
  have hsz0 : (((w.alloc (.cells #[.int .i64 0, .string ⟨#[]⟩, .int .i64 0, .int .i64 0, .int .i64 0, .slice none 0 0, .string ⟨#[]⟩, .string ⟨#[]⟩, .string ⟨#[]⟩, .int .i64 0, .slice none 0 0, .bool false] 37)).alloc (.cells #[.int .i64 0, .int .i64 0, .int .i64 0] 28)).alloc (.cells #[lv, .int .i64 i, .int .i64 0, .string ⟨#[]⟩, .int .i64 0, .int .i64 0, .int .i64 0, .slice none 0 0, .string ⟨#[]⟩, .string ⟨#[]⟩, .string ⟨#[]⟩, .int .i64 0, .slice none 0 0, .bool false, .int .i64 0, .int .i64 0, .int .i64 0] 53)).heap.size = w.heap.size + 3 := by simp
  have HZ0 := Lib.hid hsz0
  obtain ⟨x, hx⟩ : ∃ x, tkAt T i = x := ⟨_, rfl⟩
  have HX := Lib.hid hx
  obtain ⟨ad, cap, rfl, -, -⟩ := h
  clear hx hsz0
  go_enter Tryz.func11, Tryz.ntmps11
  go_wp2_with fail
  refine (dnow_any HS0.out.rd).mono ?_
  rintro en w1 ⟨rfl, hb1⟩
  rw [show tkAt T (rs0 i).i = x from HX.out]
  unfold tokV
  have HS1 := Lib.hid ((HS0.out.then hb1).alloc (.cells #[.int .i64 x.kind, .string x.text, .int .i64 x.num, .int .i64 x.line, .int .i64 x.col] 48))
  have HT := Lib.hid (show TkB (w1.alloc (.cells #[.int .i64 x.kind, .string x.text, .int .i64 x.num, .int .i64 x.line, .int .i64 x.col] 48)) w1.heap.size x from heap_alloc_new w1 _)
  have hsz1 : w.heap.size + 3 ≤ w1.heap.size := by rw [← HZ0.out]; exact hb1.size
  have HZ1 := Lib.hid (show (w1.alloc (.cells #[.int .i64 x.kind, .string x.text, .int .i64 x.num, .int .i64 x.line, .int .i64 x.col] 48)).heap.size = w1.heap.size + 1 by simp)
  clear hb1
  obtain ⟨t0, t1, t2, t3, t4⟩ := HT.out.facts
  go_wp2_with fail
  refine (drule_any x.text _).mono ?_
  rintro en w2 ⟨rfl, hw⟩
  rw [hw]
  clear hw
  have hkb : (x.kind != 2) = false := by rw [← show tkAt T i = x from HX.out, hk]; rfl
  rw [show kindN x.text = 0 by rw [← show tkAt T i = x from HX.out]; exact hkk, show ruleF 0 = Value.nilFunc from rfl]
  have hnil : ∀ W : World, Sem.run Tryz.prog (binOp .eql 55 .nilFunc .nilFunc) W = .ok (.bool true) W := fun W => by rfl
  clear hk hkk
  go_wp2_with fail
  refine (dfail_any HS1.out.rd HS1.out.size 4).mono ?_
  rintro en w3 ⟨rfl, hc⟩
  have HS3 := Lib.hid (HS1.out.next hc)
  clear hc
  have hf : failD T 4 (rs0 i) = { rs0 i with er := 4, line := x.line, col := x.col } := by unfold failD; rw [if_pos (show (rs0 i).er = 0 from rfl), show tkAt T (rs0 i).i = x from HX.out]
  unfold Hid at HS3
  rw [hf] at HS3
  replace HS3 := Lib.hid HS3
  clear hf
  obtain ⟨_, _, _, _, _, _, _, _, _, _, _, _, _, _, c14, c15, c16⟩ := HS3.out.rd.facts
  obtain ⟨a0, a1, a2, a3, a4, a5, a6, a7, a8, a9, a10, a11⟩ := HS3.out.st.facts
  obtain ⟨b0, b1, b2, b3, b4, b5, b6, b7, b8, b9, b10, b11⟩ := HS3.out.st.free
  obtain ⟨d0, d1, d2⟩ := HS3.out.ft.facts
  obtain ⟨g0, g1, g2⟩ := HS3.out.ft.free
  have HBD := Lib.hid (HS3.out.bad 4 x.line x.col)
  go_wp2
  go_region
  go_wp2
  refine bodyPost_ret (one_results HBD.out.1.drew HBD.out.2.1.drew 0 rfl rfl rfl) rfl ?_
  rw [HO.out, show tkAt T i = x from HX.out]
  exact ⟨rfl, HBD.out.2.2.drew⟩

end Go.Proofs.YthlofmnmacpogaaGreatDoor
