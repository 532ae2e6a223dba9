/- Contract of decl.Read; awake of warderlaw07 (printed by gen_decl13.py). -/
import Derived.Test.YthlofmnmacpogaaGreatDoorDf11
import Derived.KernelRfl

namespace Go.Proofs.YthlofmnmacpogaaGreatDoor
open Go.RowKit

theorem dread_any (s : ByteArray) (w : World) (hm : MaxCell w) (hs : s.size ≤ 4294967200) :
    Calls Tryz.prog 8 #[.string s] w (DReadPost w (readD s)) := by
  by_cases h0 : (tokRes s).er = 0
  · exact dread_ok s w hm hs h0
  · exact dread_bad s w hm hs h0

/-- "stage s; attr a = -1;" -/
def awake7T : ByteArray := ⟨#[115, 116, 97, 103, 101, 32, 115, 59, 32, 97, 116, 116, 114, 32, 97, 32, 61, 32, 45, 49, 59]⟩
theorem awake7T_tok : tokRes awake7T = ⟨0, 0, 0, 0, [⟨2, ⟨#[115, 116, 97, 103, 101]⟩, 0, 1, 1⟩, ⟨1, ⟨#[115]⟩, 0, 1, 7⟩, ⟨4, ⟨#[59]⟩, 0, 1, 8⟩, ⟨2, ⟨#[97, 116, 116, 114]⟩, 0, 1, 10⟩, ⟨1, ⟨#[97]⟩, 0, 1, 15⟩, ⟨4, ⟨#[61]⟩, 0, 1, 17⟩, ⟨3, ⟨#[45, 49]⟩, -1, 1, 19⟩, ⟨4, ⟨#[59]⟩, 0, 1, 21⟩, ⟨5, ⟨#[]⟩, 0, 1, 22⟩]⟩ := by kernel_rfl
theorem awake7T_read : readD awake7T = .ok [⟨4, ⟨#[115]⟩, 1, 1, 0, [], ⟨#[]⟩, ⟨#[]⟩, ⟨#[]⟩, 0, [], false⟩, ⟨1, ⟨#[97]⟩, 1, 10, -1, [], ⟨#[]⟩, ⟨#[]⟩, ⟨#[]⟩, 0, [], false⟩] := by
  unfold readD
  rw [awake7T_tok]
  kernel_rfl

theorem two_of {l : List Sv} {a b : St} (h : l.map (·.1) = [a, b]) : ∃ p q : Sv, l = [p, q] ∧ p.1 = a ∧ q.1 = b := by
  match l, h with
  | [p, q], h =>
    simp only [List.map_cons, List.map_nil, List.cons.injEq, and_true] at h
    exact ⟨p, q, rfl, h.1, h.2⟩
theorem svFlat_two (p q : Sv) : svFlat [p, q] = [.int .i64 p.1.kind, .string p.1.name, .int .i64 p.1.line, .int .i64 p.1.col, .int .i64 p.1.init, p.2.1, .string p.1.role, .string p.1.stage, .string p.1.event, .int .i64 p.1.times, p.2.2, .bool p.1.final, .int .i64 q.1.kind, .string q.1.name, .int .i64 q.1.line, .int .i64 q.1.col, .int .i64 q.1.init, q.2.1, .string q.1.role, .string q.1.stage, .string q.1.event, .int .i64 q.1.times, q.2.2, .bool q.1.final] := rfl

set_option maxHeartbeats 4000000 in
theorem awake07 (w : World) (hm : MaxCell w) :
    Calls Tryz.prog 7 #[] w fun e w' => e = .returned (.bool true) ∧ Below w.heap.size w w' := by
  have HW := Lib.hid (dread_any awake7T w hm (by decide))
  have HA := Lib.hid awake7T_read
  go_enter Tryz.func7, Tryz.ntmps7
  go_wp2_with fail
  refine HW.out.mono ?_
  rw [HA.out]
  rintro e w1 ⟨l, v, hl, rfl, hr, hb1⟩
  obtain ⟨p, q, rfl, hp, hq⟩ := two_of hl
  have hown := hr.row
  simp only [List.length_cons, List.length_nil, Nat.zero_add, Nat.reduceAdd] at hown
  obtain ⟨g, cap, rfl, hg, hgs⟩ := owns_shape hown (by omega)
  have c0 := World.ownsRow.cellAt hown 0 (by omega)
  have c1 := World.ownsRow.cellAt hown 1 (by omega)
  have c14 := World.ownsRow.cellAt hown 14 (by omega)
  have c15 := World.ownsRow.cellAt hown 15 (by omega)
  have c16 := World.ownsRow.cellAt hown 16 (by omega)
  have HB := Lib.hid hb1
  clear hown hb1 hr
  rw [svFlat_two] at c0 c1 c14 c15 c16
  simp only [List.getElem?_cons_zero, List.getElem?_cons_succ] at c0 c1 c14 c15 c16
  rw [show p.1.kind = 4 by rw [hp]] at c0
  rw [show p.1.name = ⟨#[115]⟩ by rw [hp]] at c1
  rw [show q.1.line = 1 by rw [hq]] at c14
  rw [show q.1.col = 10 by rw [hq]] at c15
  rw [show q.1.init = -1 by rw [hq]] at c16
  clear hp hq hl
  go_wp2
  go_ret
  exact ⟨rfl, HB.out.alloc HB.out.size _⟩

end Go.Proofs.YthlofmnmacpogaaGreatDoor
