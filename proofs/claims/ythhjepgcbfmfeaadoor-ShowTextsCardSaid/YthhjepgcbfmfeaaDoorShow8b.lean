/- Contract of warderref04's Kids: two. -/
import Derived.Test.YthhjepgcbfmfeaaDoorShow8
namespace Go.Proofs.YthhjepgcbfmfeaaDoor
open Go.RowKit

set_option maxRecDepth 100000 in
set_option maxHeartbeats 400000 in
theorem kids_2 {w : World} {v : Value} {O : List It} (h : ItIn w v O) {e : Nat} {x : It} (hx : O[e + 1]? = some x) (hop : arN x.op = 2) (hl : O.length ≤ 1000) {k : Nat} (hk : begB O (e + 1) 1 = (k : Int) + 1) :
    Calls Tryd.prog 29 #[v, .int .i64 ((e : Int) + 1)] w fun en w' => en = .returned (.slice (some ⟨w.heap.size, 0, none⟩) 2 2) ∧ w' = w.alloc (.cells #[.int .i64 k, .int .i64 e] 3) := by
  obtain ⟨g, off, cap, hv, hgl, a0, _, _, _, _, _, _, _, _⟩ := h.at hx
  subst hv
  have hlt := (List.getElem?_eq_some_iff.1 hx).1
  have HA := Lib.hid (rarity_any w x.op)
  rw [hop] at HA
  have HG := Lib.hid (rbegin_any h (e + 1) (by omega) hl)
  have hkr : (k : Int) ≤ 1000 := by
    have hb := begB_range O (e + 1) 1
    rw [hk] at hb
    clear HG hk
    omega
  rw [show ((e + 1 : Nat) : Int) - 1 = (e : Int) by clear HG hk; omega] at HG
  obtain ⟨B, hB⟩ : ∃ B, begB O (e + 1) 1 = B := ⟨_, rfl⟩
  rw [hB] at HG hk
  obtain ⟨E, hE⟩ : ∃ E : Int, (e : Int) + 1 = E := ⟨_, rfl⟩
  obtain ⟨E0, hE0⟩ : ∃ E0 : Int, (e : Int) = E0 := ⟨_, rfl⟩
  obtain ⟨K, hK⟩ : ∃ K : Int, (k : Int) = K := ⟨_, rfl⟩
  have hez : E < (O.length : Int) := by clear HG; omega
  have he0 : (0 : Int) ≤ E := by clear HG; omega
  have ht1 : E.toNat = e + 1 := by clear HG; omega
  have hw1 : IntKind.i64.wrap (E - 1) = E0 := by rw [show E - 1 = E0 by clear HG; omega]; exact IntWalk.i64_in _ ⟨by clear HG; omega, by clear HG; omega⟩
  have hw2 : IntKind.i64.wrap (B - 1) = K := by rw [show B - 1 = K by clear HG; omega]; exact IntWalk.i64_in _ ⟨by clear HG; omega, by clear HG; omega⟩
  rw [hE0] at HG
  rw [hE, hE0, hK]
  clear h hx hop hlt hl hk hB hE hE0 hK hkr
  go_enter Tryd.func29, Tryd.ntmps29
  go_wp2_with fail
  refine HA.out.mono ?_
  rintro e w3 ⟨rfl, rfl⟩
  go_wp2_with fail
  refine HG.out.mono ?_
  rintro e w3 ⟨rfl, rfl⟩
  go_wp2
  go_ret
  exact ⟨rfl, rfl⟩

end Go.Proofs.YthhjepgcbfmfeaaDoor
