/- Contract of warderref04.Exact, for two lists of the same items. -/
import Derived.Test.YthhjepgcbfmfeaaDoorCondPlain
import Derived.Test.YthhjepgcbfmfeaaDoorKit
namespace Go.Proofs.YthhjepgcbfmfeaaDoor
open Go.RowKit

/-- a slice that reads as items -/
def ItRow (w : World) (v : Value) (T : List It) : Prop := ∃ B, w.ownsRow B 36 9 v T.length (itFlat T)
theorem ItRow.keep {w w' : World} {v : Value} {T : List It} (h : ItRow w v T) (hb : Below w.heap.size w w') : ItRow w' v T := by
  obtain ⟨B, h⟩ := h; exact ⟨B, owns_below h hb⟩
theorem ItRow.drewN {w : World} {v : Value} {T : List It} (h : ItRow w v T) (n : Nat) : ItRow (w.drewN n) v T := h
theorem ItRow.alloc {w : World} {v : Value} {T : List It} (h : ItRow w v T) (o : Obj) : ItRow (w.alloc o) v T := h.keep ((Below.refl _ _).alloc (Nat.le_refl _) o)
theorem ItRow.len {w : World} {v : Value} {T : List It} (h : ItRow w v T) : ∃ ad cap, v = .slice ad T.length cap := by
  obtain ⟨B, h⟩ := h; exact owns_len h
theorem ItRow.at {w : World} {v : Value} {T : List It} (h : ItRow w v T) {k : Nat} {x : It} (hx : T[k]? = some x) :
    ∃ g cap, v = .slice (some ⟨g, 0, none⟩) T.length cap ∧ g < w.heap.size ∧ w.cell? ⟨g, k * 9, none⟩ = some (.int .i64 x.op) ∧ w.cell? ⟨g, k * 9 + 1, none⟩ = some (.string x.ln) ∧ w.cell? ⟨g, k * 9 + 2, none⟩ = some (.int .i64 x.lnum) ∧
      w.cell? ⟨g, k * 9 + 3, none⟩ = some (.string x.rn) ∧ w.cell? ⟨g, k * 9 + 4, none⟩ = some (.int .i64 x.rnum) ∧ w.cell? ⟨g, k * 9 + 5, none⟩ = some (.string x.name) ∧ w.cell? ⟨g, k * 9 + 6, none⟩ = some (.string x.user) ∧
      w.cell? ⟨g, k * 9 + 7, none⟩ = some (.int .i64 x.line) ∧ w.cell? ⟨g, k * 9 + 8, none⟩ = some (.int .i64 x.col) := by
  obtain ⟨B, h⟩ := h
  have hk := (List.getElem?_eq_some_iff.1 hx).1
  obtain ⟨g, cap, rfl, hg, hgs⟩ := owns_shape h (by omega)
  have c := fun j (hj : j < 9) => (World.ownsRow.cellAt h (k * 9 + j) (by omega)).trans (itFlat_get _ k j x hx hj)
  exact ⟨g, cap, rfl, hgs, c 0 (by omega), c 1 (by omega), c 2 (by omega), c 3 (by omega), c 4 (by omega), c 5 (by omega), c 6 (by omega), c 7 (by omega), c 8 (by omega)⟩

end Go.Proofs.YthhjepgcbfmfeaaDoor
