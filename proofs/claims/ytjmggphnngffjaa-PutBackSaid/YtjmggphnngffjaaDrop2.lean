/- formed and cut of package drop. -/
import Derived.Test.YtjmggphnngffjaaDrop1
import Derived.StillTailTactics
namespace Go.Proofs.Ytjmggphnngffjaa
open Go.RowKit

theorem cellsP_take (l : List (Int × Int)) (i : Nat) : (cellsP l).take (i * 2) = cellsP (l.take i) := by
  induction l generalizing i with
  | nil => simp [cellsP]
  | cons p r ih =>
    cases i with
    | zero => simp [cellsP]
    | succ i =>
      rw [show (i + 1) * 2 = i * 2 + 1 + 1 by omega, List.take_succ_cons]
      simp only [cellsP, List.flatMap_cons, List.cons_append, List.nil_append, List.take_succ_cons] at *
      rw [ih]
theorem cellsP_drop (l : List (Int × Int)) (i : Nat) : (cellsP l).drop (i * 2) = cellsP (l.drop i) := by
  induction l generalizing i with
  | nil => simp [cellsP]
  | cons p r ih =>
    cases i with
    | zero => simp
    | succ i =>
      rw [show (i + 1) * 2 = i * 2 + 1 + 1 by omega, List.drop_succ_cons]
      simp only [cellsP, List.flatMap_cons, List.cons_append, List.nil_append, List.drop_succ_cons] at *
      exact ih i
theorem cellsP_append (l r : List (Int × Int)) : cellsP (l ++ r) = cellsP l ++ cellsP r := by simp [cellsP]

/-- the gaps without a class -/
def cutG (gl : List Int) (n i : Nat) (r : Int) : List Int :=
  if n = 1 then gl else if i = 0 then gl.eraseIdx 0 else if i = n - 1 then gl.eraseIdx (n - 2) else (gl.set (i - 1) (merge (gl.getD (i - 1) 0) (gl.getD i 0) r)).eraseIdx i

theorem owns_row {w : World} {base : Nat} {e : TypeId} {sz g n cap : Nat} {xs : List Value} (h : w.ownsRow base e sz (.slice (some ⟨g, 0, none⟩) n cap) n xs) : ∃ cur, w.heap[g]? = some (.cells cur e (0, 0)) ∧ base ≤ g := by
  rcases h.2 with ⟨h0, _⟩ | ⟨g', cap', cur, hv, hb, hg, _⟩
  · cases h0
  · cases hv; exact ⟨cur, hg, hb⟩

/-- a zone's two cells in a block of their own -/
def Box2 (W : World) (B : Nat) (a b : Value) : Prop := W.heap[B]? = some (.cells #[a, b] 45 (0, 0))
theorem Box2.lt {W : World} {B : Nat} {a b : Value} (h : Box2 W B a b) : B < W.heap.size := (Array.getElem?_eq_some_iff.1 h).1
theorem Box2.c0 {W : World} {B : Nat} {a b : Value} (h : Box2 W B a b) : W.cell? ⟨B, 0, none⟩ = some a := by simp [World.cell?, show W.heap[B]? = _ from h]
theorem Box2.c1 {W : World} {B : Nat} {a b : Value} (h : Box2 W B a b) : W.cell? ⟨B, 1, none⟩ = some b := by simp [World.cell?, show W.heap[B]? = _ from h]
theorem Box2.z0 {W : World} {B : Nat} {a b : Value} (h : Box2 W B a b) (j : Nat) : W.frozen? ⟨B, j, none⟩ = false := by simp [World.frozen?, show W.heap[B]? = _ from h]
theorem Box2.new (W : World) (a b : Value) : Box2 (W.alloc (.cells #[a, b] 45)) W.heap.size a b := World.alloc_heap_new W _
theorem Box2.kept {W W' : World} {B : Nat} {a b : Value} {row : Option Nat} (h : Box2 W B a b) (hg : W.grownBy W' row) (hne : row ≠ some B) : Box2 W' B a b := (hg.block B h.lt (fun e => hne e.symm)).trans h
theorem Box2.alloc {W : World} {B : Nat} {a b : Value} (h : Box2 W B a b) (o : Obj) : Box2 (W.alloc o) B a b := (Below.heap_alloc W o B h.lt).trans h
theorem Box2.s0 {W : World} {B : Nat} {a b : Value} (h : Box2 W B a b) (u : Value) : Box2 (W.setCell ⟨B, 0, none⟩ u) B u b := by
  obtain ⟨hlt, hk⟩ := Array.getElem?_eq_some_iff.1 h
  show (W.heap.modify B _)[B]? = _
  rw [Array.getElem?_eq_getElem (by rw [Array.size_modify]; exact hlt), Array.getElem_modify_self, hk]
  rfl
theorem Box2.s1 {W : World} {B : Nat} {a b : Value} (h : Box2 W B a b) (u : Value) : Box2 (W.setCell ⟨B, 1, none⟩ u) B a u := by
  obtain ⟨hlt, hk⟩ := Array.getElem?_eq_some_iff.1 h
  show (W.heap.modify B _)[B]? = _
  rw [Array.getElem?_eq_getElem (by rw [Array.size_modify]; exact hlt), Array.getElem_modify_self, hk]
  rfl
theorem Box2.other {W : World} {B : Nat} {a b : Value} (h : Box2 W B a b) (x : Addr) (hx : B ≠ x.block) (u : Value) : Box2 (W.setCell x u) B a b := (Below.heap_setCell W x u B hx).trans h
theorem Box2.row {W : World} {B : Nat} {a b : Value} (h : Box2 W B a b) {base : Nat} {e : TypeId} {sz n : Nat} {v : Value} {xs : List Value} (ho : W.ownsRow base e sz v n xs) (he : 45 ≠ e) : v.ownBlock ≠ some B := by
  rcases ho.2 with ⟨rfl, _⟩ | ⟨g', cap', cur, rfl, _, hg, _⟩
  · simp [Value.ownBlock]
  · intro e'
    have e2 : g' = B := by simpa [Value.ownBlock] using e'
    subst e2
    rw [show W.heap[g']? = _ from h] at hg; cases hg; exact he rfl

/-- a world in which of the old blocks two alone may have turned -/
structure K2 (g1 g2 : Nat) (w w' : World) : Prop where
  os : w'.os = w.os
  tape : w'.tape = w.tape
  output : w'.output = w.output
  size : w.heap.size ≤ w'.heap.size
  block : ∀ k, k < w.heap.size → k ≠ g1 → k ≠ g2 → w'.heap[k]? = w.heap[k]?
theorem K2.refl (g1 g2 : Nat) (w : World) : K2 g1 g2 w w := ⟨rfl, rfl, rfl, Nat.le_refl _, fun _ _ _ _ => rfl⟩
theorem K2.trans {g1 g2 : Nat} {a b c : World} (h : K2 g1 g2 a b) (k : K2 g1 g2 b c) : K2 g1 g2 a c :=
  ⟨k.os.trans h.os, k.tape.trans h.tape, k.output.trans h.output, Nat.le_trans h.size k.size, fun q hq h1 h2 => (k.block q (Nat.lt_of_lt_of_le hq h.size) h1 h2).trans (h.block q hq h1 h2)⟩
theorem K2.drew {g1 g2 : Nat} {a w : World} (h : K2 g1 g2 a w) : K2 g1 g2 a w.drew := ⟨h.os, h.tape, h.output, h.size, h.block⟩
theorem K2.alloc {g1 g2 : Nat} {a w : World} (h : K2 g1 g2 a w) (o : Obj) : K2 g1 g2 a (w.alloc o) :=
  h.trans ⟨rfl, rfl, rfl, by simp, fun k hk _ _ => Below.heap_alloc _ _ _ (by omega)⟩
theorem K2.setCell {g1 g2 : Nat} {a w : World} (h : K2 g1 g2 a w) {p : Addr} (hp : p.block = g1 ∨ p.block = g2 ∨ a.heap.size ≤ p.block) (u : Value) : K2 g1 g2 a (w.setCell p u) :=
  ⟨h.os, h.tape, h.output, Nat.le_trans h.size (by simp [World.setCell]), fun k hk h1 h2 => (Below.heap_setCell _ _ _ _ (by omega)).trans (h.block k hk h1 h2)⟩
theorem K2.grown1 {g1 g2 : Nat} {a w w' : World} (h : K2 g1 g2 a w) (hg : w.grownBy w' (some g1)) : K2 g1 g2 a w' :=
  h.trans ⟨hg.os, hg.tape, hg.output, hg.size, fun k hk h1 _ => hg.block k hk (fun e => h1 (by cases e; rfl))⟩
theorem K2.grown2 {g1 g2 : Nat} {a w w' : World} (h : K2 g1 g2 a w) (hg : w.grownBy w' (some g2)) : K2 g1 g2 a w' :=
  h.trans ⟨hg.os, hg.tape, hg.output, hg.size, fun k hk _ h2 => hg.block k hk (fun e => h2 (by cases e; rfl))⟩
theorem K2.below {g1 g2 base : Nat} {w w' : World} (h : K2 g1 g2 w w') (h1 : base ≤ g1) (h2 : base ≤ g2) (h3 : base ≤ w.heap.size) : Below base w w' :=
  ⟨h.os, h.tape, h.output, h.size, fun k hk => h.block k (by omega) (by omega) (by omega)⟩
theorem Box2.two {W W' : World} {B g1 g2 : Nat} {a b : Value} (h : Box2 W B a b) (hk : K2 g1 g2 W W') (h1 : B ≠ g1) (h2 : B ≠ g2) : Box2 W' B a b := (hk.block B h.lt h1 h2).trans h

end Go.Proofs.Ytjmggphnngffjaa
