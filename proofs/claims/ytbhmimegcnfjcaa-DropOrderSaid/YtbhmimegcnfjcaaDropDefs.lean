/- Zones of numbers in the laws of chapter 23. -/
import Derived.Test.YtbhmimegcnfjcaaDropLaw
namespace Go.Proofs.Ytbhmimegcnfjcaa
open Go.RowKit

/-- the zone that Of makes of numbers -/
def ofZ (vals consts : List Int) (r : Int) : List (Int × Int) × List Int := zoneZ (pZ vals) vals.length (sortS consts) (sortS (vals ++ consts)) (kap r)
def someZ (vals : List Int) (inn : List Bool) (consts : List Int) (r : Int) : List (Int × Int) × List Int := zoneZ (pS vals inn) vals.length (sortS consts) (sortS (consts ++ selZ vals inn vals.length)) (kap r)
theorem ofZ_len (vals consts : List Int) (r : Int) : (ofZ vals consts r).1.length ≤ vals.length + consts.length ∧ (ofZ vals consts r).2.length ≤ vals.length + consts.length := by
  have h := sortS_len (vals ++ consts)
  rw [List.length_append] at h
  unfold ofZ zoneZ
  dsimp only
  rw [List.length_map, gapsZ_len]
  omega
theorem someZ_len (vals : List Int) (inn : List Bool) (consts : List Int) (r : Int) : (someZ vals inn consts r).1.length ≤ vals.length + consts.length ∧ (someZ vals inn consts r).2.length ≤ vals.length + consts.length := by
  have h := sortS_len (consts ++ selZ vals inn vals.length)
  have h2 := selZ_len vals inn vals.length
  rw [List.length_append] at h
  unfold someZ zoneZ
  dsimp only
  rw [List.length_map, gapsZ_len]
  omega

/-- a zone's result whose slices are seen -/
theorem zone_shape {w : World} {base : Nat} {v1 v2 : Value} {cl : List (Int × Int)} {gl : List Int} (h : ZoneAt w base v1 v2 cl gl) : ∃ a1 c1 a2 c2, v1 = .slice a1 cl.length c1 ∧ v2 = .slice a2 gl.length c2 := by
  obtain ⟨a1, c1, rfl⟩ := owns_len h.1
  obtain ⟨a2, c2, rfl⟩ := owns_len h.2
  exact ⟨_, _, _, _, rfl, rfl⟩

end Go.Proofs.Ytbhmimegcnfjcaa
