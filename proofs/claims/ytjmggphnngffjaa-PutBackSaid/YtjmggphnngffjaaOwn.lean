/- Rows of unlike kinds beside each other. -/
import Derived.Test.YtjmggphnngffjaaKit
namespace Go.Proofs.Ytjmggphnngffjaa
open Go.RowKit

/-- a row stays while a row of another kind grows -/
theorem owns_beside {w w' : World} {b1 b2 : Nat} {e1 e2 : TypeId} {s1 s2 n1 n2 : Nat} {v1 v2 : Value} {xs1 xs2 : List Value} (h1 : w.ownsRow b1 e1 s1 v1 n1 xs1) (h2 : w.ownsRow b2 e2 s2 v2 n2 xs2) (he : e1 ≠ e2) (hg : w.grownBy w' v1.ownBlock) : w'.ownsRow b2 e2 s2 v2 n2 xs2 := by
  refine h2.kept hg ?_
  rcases h2.2 with ⟨rfl, _⟩ | ⟨g2, cap2, cur2, rfl, _, hg2, _⟩
  · exact .inl rfl
  · refine .inr fun e => ?_
    rcases h1.2 with ⟨rfl, _⟩ | ⟨g1, cap1, cur1, rfl, _, hg1, _⟩
    · simp [Value.ownBlock] at e
    · have e3 : g1 = g2 := by
        simp [Value.ownBlock] at e
        omega
      subst e3
      rw [hg1] at hg2; cases hg2; exact he rfl

/-- first one row alone, then only what is new -/
theorem grown_then_below {a b c : World} {row : Option Nat} (h : a.grownBy b row) (k : Below a.heap.size b c) : a.grownBy c row :=
  ⟨k.os.trans h.os, k.tape.trans h.tape, k.output.trans h.output, Nat.le_trans h.size k.size, fun q hq hne => (k.block q hq).trans (h.block q hq hne)⟩

end Go.Proofs.Ytjmggphnngffjaa
