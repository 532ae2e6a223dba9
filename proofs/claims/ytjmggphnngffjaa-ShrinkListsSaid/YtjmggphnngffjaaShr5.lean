/- Contract of warderlaw48's awake, and of the law ShrinkLists. -/
import Derived.Test.YtjmggphnngffjaaShr4
import Derived.Test.YtjmggphnngffjaaShr2a
import Derived.Test.YtjmggphnngffjaaSame07I
namespace Go.Proofs.Ytjmggphnngffjaa
open Go.RowKit

set_option maxRecDepth 100000 in
set_option maxHeartbeats 1000000 in
theorem list_any {w : World} {v : Value} {L : List Sm} (h : SmIn w v L) (h1 : ∀ y ∈ L, SmOne y) (hl : L.length ≤ 10000) :
    Calls Try.prog 8 #[v, .func (.func 28) #[] #[]] w fun e w' => ∃ v', e = .returned v' ∧ SmIn w' v' (shrinkS anyB L) ∧ Below w.heap.size w w' := by
  have HS := Lib.hid (shrunk_any h h1 hl)
  obtain ⟨ad, cap, hv⟩ := h.len
  subst hv
  have hnil : ∀ W : World, Sem.run Try.prog (binOp .eql 32 (.func (.func 28) #[] #[]) .nilFunc) W = .ok (.bool false) W := fun W => by rfl
  clear h h1 hl
  go_enter Try.func8, Try.ntmps8
  go_wp2_with fail
  refine HS.out.mono ?_
  rintro e w1 ⟨v1, rfl, hi, hb⟩
  have HF := Lib.hid (And.intro hi hb)
  obtain ⟨ad1, cap1, hv1⟩ := hi.len
  subst hv1
  clear hi hb
  go_wp2
  go_ret
  exact ⟨_, rfl, HF.out.1, HF.out.2⟩

def awS (s : ByteArray) : Sm := ⟨1, s, 0, 0, 0, .slice none 0 0, ⟨#[]⟩, ⟨#[]⟩, ⟨#[]⟩, 0, .slice none 0 0, false, [], []⟩
def awL : List Sm := [awS ⟨#[97]⟩, awS ⟨#[98]⟩, awS ⟨#[99]⟩]
def awC : Array Value := (smFlat awL).toArray
theorem awL_in (w : World) : SmIn (w.alloc (.cells awC 31)) (.slice (some ⟨w.heap.size, 0, none⟩) 3 3) awL := by
  refine ⟨_, _, rfl, ⟨fun e => (by cases e), Nat.le_refl _, by unfold maxLen; omega⟩, .inr ⟨_, _, rfl, by simp, fun k x hx j hj => ?_⟩⟩
  rw [World.cell?_alloc_at _ _ _ _ rfl]
  have hk := (List.getElem?_eq_some_iff.1 hx).1
  show awC[0 + k * 12 + j]? = _
  rw [Nat.zero_add, show awC[k * 12 + j]? = (smFlat awL)[k * 12 + j]? by simp [awC]]
  exact smFlat_get awL k j x hx hj
theorem awL_shr : shrinkS anyB awL = [awS ⟨#[97]⟩] := rfl

set_option maxRecDepth 100000 in
set_option maxHeartbeats 2000000 in
theorem awake48 (w : World) :
    Calls Try.prog 7 #[] w fun e w' => e = .returned (.bool true) ∧ Below w.heap.size w w' := by
  have hb0 : Below w.heap.size w (w.alloc (.cells awC 31)) := (Below.refl _ w).alloc (Nat.le_refl _) _
  have HB0 := Lib.hid hb0
  have HF := Lib.hid (list_any (awL_in w) (fun y hy => by simp only [awL, List.mem_cons, List.not_mem_nil, or_false] at hy; rcases hy with rfl | rfl | rfl <;> exact ⟨rfl, rfl⟩) (by decide))
  rw [awL_shr] at HF
  unfold awC at HF HB0
  simp only [awL, awS, smFlat, smCells, List.flatMap_cons, List.flatMap_nil, List.cons_append, List.nil_append, List.append_nil] at HF HB0
  clear hb0
  go_enter Try.func7, Try.ntmps7
  go_wp2_with fail
  refine HF.out.mono ?_
  rintro e w1 ⟨v1, rfl, hi, hb1⟩
  have HB1 := Lib.hid (HB0.out.trans (hb1.mono HB0.out.size))
  obtain ⟨g, off, cap, hv, hgl, a0, a1, -⟩ := hi.at (k := 0) rfl
  simp only [List.length_cons, List.length_nil] at hv
  subst hv
  clear hb1 hi
  go_wp2
  go_ret
  exact ⟨rfl, HB1.out⟩

end Go.Proofs.Ytjmggphnngffjaa
