/- Plain: a list shrunk as long as something holds. -/
import Derived.Test.YtjmggphnngffjaaStmIn
namespace Go.Proofs.Ytjmggphnngffjaa
open Go.RowKit

/-- how far the outer loop has still to go -/
def msrN (m : Int) : Nat := if m = -1 then 10002 else m.toNat
def msr (v : Value) : Nat := msrN (intOf v)
theorem msr_val (m : Int) : msr (.int .i64 m) = if m = -1 then 10002 else m.toNat := rfl
def lessS (i : Nat) (L : List Sm) : List Sm := L.take i ++ L.drop (i + 1)
theorem lessS_len {i : Nat} {L : List Sm} (h : i < L.length) : (lessS i L).length + 1 = L.length := by
  unfold lessS; rw [List.length_append, List.length_take, List.length_drop]; omega
theorem lessS_mem {i : Nat} {L : List Sm} {y : Sm} (h : y ∈ lessS i L) : y ∈ L := by
  unfold lessS at h
  rcases List.mem_append.1 h with h | h
  · exact List.mem_of_mem_take h
  · exact List.mem_of_mem_drop h
/-- from the last item that is looked at on, each goes if it may -/
def passS (p : List Sm → Bool) : Nat → List Sm → List Sm
  | 0, L => L
  | i + 1, L => if p (lessS i L) then passS p i (lessS i L) else passS p i L
theorem passS_len (p : List Sm → Bool) : ∀ (i : Nat) (L : List Sm), i ≤ L.length → (passS p i L).length ≤ L.length
  | 0, L, _ => Nat.le_refl _
  | i + 1, L, h => by
    rw [passS]
    have hl := lessS_len (show i < L.length by omega)
    split
    · have := passS_len p i (lessS i L) (by omega); omega
    · exact passS_len p i L (by omega)
theorem passS_mem (p : List Sm → Bool) : ∀ (i : Nat) (L : List Sm) {y : Sm}, y ∈ passS p i L → y ∈ L
  | 0, L, y, h => h
  | i + 1, L, y, h => by
    rw [passS] at h
    split at h
    · exact lessS_mem (passS_mem p i _ h)
    · exact passS_mem p i L h
/-- if nothing goes, all stays -/
theorem passS_same (p : List Sm → Bool) : ∀ (i : Nat) (L : List Sm), i ≤ L.length → (passS p i L).length = L.length → passS p i L = L
  | 0, L, _, _ => rfl
  | i + 1, L, h, e => by
    rw [passS] at e ⊢
    have hl := lessS_len (show i < L.length by omega)
    split at e
    · have := passS_len p i (lessS i L) (by omega); omega
    · rename_i hp
      rw [if_neg hp]
      exact passS_same p i L (by omega) e
/-- until nothing goes -/
def runS (p : List Sm → Bool) : Nat → List Sm → List Sm
  | 0, L => L
  | k + 1, L => if (passS p L.length L).length = L.length then L else runS p k (passS p L.length L)
def shrinkS (p : List Sm → Bool) (L : List Sm) : List Sm := if p L then runS p (L.length + 1) L else L
theorem runS_stop {p : List Sm → Bool} {k : Nat} {L R : List Sm} (hk : L.length < k) (h : runS p k L = R) (e : (passS p L.length L).length = L.length) : R = L := by
  obtain ⟨k, rfl⟩ : ∃ q, k = q + 1 := ⟨k - 1, by omega⟩
  rw [runS, if_pos e] at h; exact h.symm
theorem runS_go {p : List Sm → Bool} {k : Nat} {L R : List Sm} (hk : L.length < k) (h : runS p k L = R) (e : (passS p L.length L).length ≠ L.length) : ∃ j, (passS p L.length L).length < j ∧ runS p j (passS p L.length L) = R := by
  obtain ⟨k, rfl⟩ : ∃ q, k = q + 1 := ⟨k - 1, by omega⟩
  rw [runS, if_neg e] at h
  have := passS_len p L.length L (Nat.le_refl _)
  exact ⟨k, by omega, h⟩

/-- how far warderref48.Shrink's outer loop has still to go -/
def msr2 (v b : Value) : Nat := match v, b with | .slice _ n _, .bool true => n + 1 | _, _ => 0
def anyB (C : List Sm) : Bool := decide (0 < C.length)

end Go.Proofs.Ytjmggphnngffjaa
