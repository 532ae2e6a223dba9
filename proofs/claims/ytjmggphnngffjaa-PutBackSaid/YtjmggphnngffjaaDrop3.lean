/- Drop of package drop: a zone without an attribute. -/
import Derived.Test.YtjmggphnngffjaaDrop2
namespace Go.Proofs.Ytjmggphnngffjaa
open Go.RowKit

/-- the classes and gaps from a place on, without an attribute -/
def dropGo (a r : Int) : Nat → Nat → List (Int × Int) → List Int → List (Int × Int) × List Int
  | 0, _, cl, gl => (cl, gl)
  | f + 1, i, cl, gl =>
    if hasB (cl.getD i (0, 0)).1 a = false then dropGo a r f (i + 1) cl gl
    else if putZ (cl.getD i (0, 0)).1 a false = 0 ∧ (cl.getD i (0, 0)).2 = -1 then dropGo a r f i ((cl.set i (putZ (cl.getD i (0, 0)).1 a false, (cl.getD i (0, 0)).2)).eraseIdx i) (cutG gl cl.length i r)
    else dropGo a r f (i + 1) (cl.set i (putZ (cl.getD i (0, 0)).1 a false, (cl.getD i (0, 0)).2)) gl
def dropZ (a r : Int) (cl : List (Int × Int)) (gl : List Int) : List (Int × Int) × List Int :=
  if gl.length = cl.length - 1 then dropGo a r cl.length 0 cl gl else (cl, gl)

theorem cutG_len (gl : List Int) (n i : Nat) (r : Int) (h : gl.length = n - 1) (hi : i < n) : (cutG gl n i r).length = n - 1 - 1 := by
  unfold cutG
  split
  · omega
  · split
    · rw [List.length_eraseIdx_of_lt (by omega)]; omega
    · split
      · rw [List.length_eraseIdx_of_lt (by omega)]; omega
      · rw [List.length_eraseIdx_of_lt (by rw [List.length_set]; omega), List.length_set]; omega

theorem cellsP_set1 (l : List (Int × Int)) (k : Nat) (x y z : Int) (h : l[k]? = some (x, y)) : cellsP (l.set k (z, y)) = (cellsP l).set (k * 2) (.int .i64 z) := by
  rw [cellsP_set]
  have h2 := (cellsP_get _ _ _ h).2
  refine List.ext_getElem? fun j => ?_
  by_cases hj : k * 2 + 1 = j
  · subst hj
    have hlt : k * 2 + 1 < (cellsP l).length := (List.getElem?_eq_some_iff.1 h2).1
    rw [List.getElem?_set_self (by rw [List.length_set]; exact hlt), List.getElem?_set_ne (by omega), h2]
  · rw [List.getElem?_set_ne hj]

/-- where the loop of Drop stands -/
structure DropAt (w : World) (B7 : Nat) (R : List (Int × Int) × List Int) (a r : Int) (i n : Nat) (cl : List (Int × Int)) (gl : List Int) (g1 cap1 g2 cap2 : Nat) (W : World) : Prop where
  box : Box2 W B7 (.slice (some ⟨g1, 0, none⟩) n cap1) (.slice (some ⟨g2, 0, none⟩) (n - 1) cap2)
  res : Box2 W (w.heap.size + 1) (.slice none 0 0) (.slice none 0 0)
  zone : ZoneAt W (w.heap.size + 2) (.slice (some ⟨g1, 0, none⟩) n cap1) (.slice (some ⟨g2, 0, none⟩) (n - 1) cap2) cl gl
  low : Below w.heap.size w W
  len : cl.length = n
  gap : gl.length = n - 1
  go : dropGo a r (n - i) i cl gl = R
  ib : w.heap.size + 2 ≤ B7

def boxLen (W : World) (B : Nat) : Nat := match W.cell? ⟨B, 0, none⟩ with
  | some (.slice _ n _) => n
  | _ => 0
theorem Box2.len {W : World} {B n cap : Nat} {ad : Option Addr} {b : Value} (h : Box2 W B (.slice ad n cap) b) : boxLen W B = n := by
  unfold boxLen; rw [h.c0]

theorem ZoneAt.mono {w : World} {base base' : Nat} {v1 v2 : Value} {cl : List (Int × Int)} {gl : List Int} (h : ZoneAt w base v1 v2 cl gl) (hb : base' ≤ base) : ZoneAt w base' v1 v2 cl gl := by
  have H : ∀ {e : TypeId} {sz n : Nat} {v : Value} {xs : List Value}, w.ownsRow base e sz v n xs → w.ownsRow base' e sz v n xs := by
    intro e sz n v xs h
    refine ⟨h.1, ?_⟩
    rcases h.2 with h0 | ⟨g, cap, cur, e1, e2, e3⟩
    · exact .inl h0
    · exact .inr ⟨g, cap, cur, e1, Nat.le_trans hb e2, e3⟩
  exact ⟨H h.1, H h.2⟩

end Go.Proofs.Ytjmggphnngffjaa
