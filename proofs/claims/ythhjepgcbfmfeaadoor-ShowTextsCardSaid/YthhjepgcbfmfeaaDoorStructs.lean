/- Small lemmas on rows and stores beside them: of any program. (Light: no text of the tokens is wanted.) -/
import Derived.Test.YthhjepgcbfmfeaaDoorKit
import Derived.Lib.OthersKept
import Derived.Deep.RegionHeld3
import Derived.Deep.AppendLies
import Derived.Deep.RegionLaw
import Derived.BigRegion
namespace Go.Proofs.YthhjepgcbfmfeaaDoor
open Go.RowKit

theorem row_apart {w : World} {base : Nat} {e t : TypeId} {sz : Nat} {v : Value} {n k : Nat} {xs : List Value} {cs : Array Value} {fr : Nat × Nat} (h : w.ownsRow base e sz v n xs) (hk : w.heap[k]? = some (.cells cs t fr)) (hne : t ≠ e) : v.ownBlock ≠ some k := by
  rcases h.2 with ⟨rfl, _⟩ | ⟨g, cap, cur, rfl, _, hg, _⟩
  · simp [Value.ownBlock]
  · intro hgk
    simp [Value.ownBlock] at hgk
    subst hgk
    rw [hk] at hg
    simp at hg
    exact hne hg.2.1
theorem row_store {w : World} {base : Nat} {e t : TypeId} {sz : Nat} {v : Value} {n k : Nat} {xs : List Value} {cs : Array Value} {fr : Nat × Nat} (h : w.ownsRow base e sz v n xs) (hk : w.heap[k]? = some (.cells cs t fr)) (hne : t ≠ e) (j : Nat) (u : Value) :
    (w.setCell ⟨k, j, none⟩ u).ownsRow base e sz v n xs := by
  have hnb := row_apart h hk hne
  refine ⟨h.1, ?_⟩
  rcases h.2 with hn | ⟨g, cap, cur, hv, hBg, hgg, r⟩
  · exact .inl hn
  · exact .inr ⟨g, cap, cur, hv, hBg, (Below.heap_setCell _ _ _ _ (by show g ≠ k; intro e'; exact hnb (by rw [hv, e']; rfl))).trans hgg, r⟩
theorem bytes_beq (x s : ByteArray) : (x.toList == s.toList) = decide (x = s) := by
  rw [Bool.eq_iff_iff, decide_eq_true_iff, beq_iff_eq, ByteArray.toList_eq, ByteArray.toList_eq]
  exact ⟨fun h => ByteArray.ext (Array.ext' h), fun h => by rw [h]⟩

end Go.Proofs.YthhjepgcbfmfeaaDoor
