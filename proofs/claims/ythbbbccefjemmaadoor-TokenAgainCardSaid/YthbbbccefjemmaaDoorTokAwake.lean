/- Contract of awake, of the laws on tokens: it returns true; and of TokenKnown. -/
import Derived.Test.YthbbbccefjemmaaDoorTokRun
import Derived.KernelRfl
namespace Go.Proofs.YthbbbccefjemmaaDoor
open Go.RowKit

def awakeS : ByteArray := ⟨#[97, 116, 116, 114, 32, 97, 61, 45, 53, 59]⟩
theorem awake_res : tokRes awakeS = ⟨0, 0, 0, 0, [⟨2, ⟨#[97, 116, 116, 114]⟩, 0, 1, 1⟩, ⟨1, ⟨#[97]⟩, 0, 1, 6⟩, ⟨4, ⟨#[61]⟩, 0, 1, 7⟩, ⟨3, ⟨#[45, 53]⟩, -5, 1, 8⟩, ⟨4, ⟨#[59]⟩, 0, 1, 10⟩, ⟨5, ⟨#[]⟩, 0, 1, 11⟩]⟩ := by kernel_rfl

set_option maxHeartbeats 2000000 in
theorem awake_any (w : World) (hm : MaxCell w) :
    Calls Tryd.prog 7 #[] w fun e w' => e = .returned (.bool true) ∧ Below w.heap.size w w' := by
  have HA := Lib.hid awake_res
  go_enter Tryd.func7, Tryd.ntmps7
  go_wp2_with fail
  refine (tokens_any awakeS _ hm (by decide)).mono ?_
  rintro e w1 ⟨v, rfl, hown, hb1⟩
  rw [HA.out] at hown
  rw [HA.out]
  simp only [List.length_cons, List.length_nil, Nat.zero_add, Nat.reduceAdd] at hown
  obtain ⟨g, cap, rfl, hg, hgs⟩ := owns_shape hown (by omega)
  have c0 := World.ownsRow.cellAt hown 0 (by omega)
  have c5 := World.ownsRow.cellAt hown 5 (by omega)
  have c11 := World.ownsRow.cellAt hown 11 (by omega)
  have c17 := World.ownsRow.cellAt hown 17 (by omega)
  have c25 := World.ownsRow.cellAt hown 25 (by omega)
  have c28 := World.ownsRow.cellAt hown 28 (by omega)
  have c29 := World.ownsRow.cellAt hown 29 (by omega)
  have HB := Lib.hid hb1
  clear hown hb1
  simp only [tkFlat, tkCells, List.flatMap_cons, List.flatMap_nil, List.cons_append, List.nil_append, List.append_nil, List.getElem?_cons_zero, List.getElem?_cons_succ] at c0 c5 c11 c17 c25 c28 c29
  rw [faultV_ok]
  go_wp2
  go_ret
  exact ⟨rfl, HB.out.alloc HB.out.size _⟩

set_option maxHeartbeats 1000000 in
theorem lawKnown_any (s : ByteArray) (w : World) (hm : MaxCell w) (hs : s.size ≤ 140737488351232) :
    Calls Tryd.prog 4 #[.string s] w fun e w' => e = .returned (.bool true) ∧ Below w.heap.size w w' := by
  have HM := Lib.hid hm
  have HZ : Hid (0 < w.heap.size) := by obtain ⟨m, hm⟩ := hm; exact World.block_lt_of_cell? w _ hm
  go_enter Tryd.func4, Tryd.ntmps4
  go_wp2_with fail
  refine (known_any s _ hm (by omega)).mono ?_
  rintro e w' ⟨rfl, rfl⟩
  go_wp2_with fail
  refine (rknown_any s _).mono ?_
  rintro e w1 ⟨rfl, hb1⟩
  have HB := Lib.hid hb1
  clear hb1 hm
  cases knownB s
  all_goals
    go_wp2_with fail
    refine (awake_any _ (HM.out.below HB.out HZ.out)).mono ?_
    rintro e w2 ⟨rfl, hb2⟩
    have HB2 := Lib.hid (HB.out.trans (hb2.mono HB.out.size))
    clear hb2
    go_wp2
    go_ret
    exact ⟨rfl, HB2.out⟩

end Go.Proofs.YthbbbccefjemmaaDoor
