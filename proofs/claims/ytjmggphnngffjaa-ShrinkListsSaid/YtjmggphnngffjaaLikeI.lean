/- Contract of warderref07.Like for a statement and itself (printed by gen_in.py). -/
import Derived.Test.YtjmggphnngffjaaSame4I
import Derived.Test.YtjmggphnngffjaaBlk
namespace Go.Proofs.Ytjmggphnngffjaa
open Go.RowKit

theorem Blk.twelve {w : World} {b : Nat} {a0 a1 a2 a3 a4 a5 a6 a7 a8 a9 a10 a11 : Value} {t : TypeId} (h : Blk w b #[a0, a1, a2, a3, a4, a5, a6, a7, a8, a9, a10, a11] t) :
    w.cell? ⟨b, 0, none⟩ = some a0 ∧ w.cell? ⟨b, 1, none⟩ = some a1 ∧ w.cell? ⟨b, 2, none⟩ = some a2 ∧ w.cell? ⟨b, 3, none⟩ = some a3 ∧ w.cell? ⟨b, 4, none⟩ = some a4 ∧ w.cell? ⟨b, 5, none⟩ = some a5 ∧ w.cell? ⟨b, 6, none⟩ = some a6 ∧ w.cell? ⟨b, 7, none⟩ = some a7 ∧ w.cell? ⟨b, 8, none⟩ = some a8 ∧ w.cell? ⟨b, 9, none⟩ = some a9 ∧ w.cell? ⟨b, 10, none⟩ = some a10 ∧ w.cell? ⟨b, 11, none⟩ = some a11 :=
  ⟨h.cell rfl, h.cell rfl, h.cell rfl, h.cell rfl, h.cell rfl, h.cell rfl, h.cell rfl, h.cell rfl, h.cell rfl, h.cell rfl, h.cell rfl, h.cell rfl⟩
theorem below_dn (w : World) (n : Nat) : Below w.heap.size w (w.drewN n) := ⟨rfl, rfl, rfl, Nat.le_refl _, fun _ _ => rfl⟩

set_option maxRecDepth 100000 in
set_option maxHeartbeats 4000000 in
theorem like_in {w : World} {x : Sm} (h : SmOK w x) (hl : SmLen x) :
    Calls Try.prog 31 #[.agg #[.int .i64 x.kind, .string x.name, .int .i64 x.line, .int .i64 x.col, .int .i64 x.init, x.nv, .string x.role, .string x.stage, .string x.event, .int .i64 x.times, x.iv, .bool x.final], .agg #[.int .i64 x.kind, .string x.name, .int .i64 x.line, .int .i64 x.col, .int .i64 x.init, x.nv, .string x.role, .string x.stage, .string x.event, .int .i64 x.times, x.iv, .bool x.final]] w fun e w' => e = .returned (.bool true) ∧ Below w.heap.size w w' := by
  have HB : Below w.heap.size w ((w.alloc (.cells #[.int .i64 x.kind, .string x.name, .int .i64 x.line, .int .i64 x.col, .int .i64 x.init, x.nv, .string x.role, .string x.stage, .string x.event, .int .i64 x.times, x.iv, .bool x.final] 31)).alloc (.cells #[.int .i64 x.kind, .string x.name, .int .i64 x.line, .int .i64 x.col, .int .i64 x.init, x.nv, .string x.role, .string x.stage, .string x.event, .int .i64 x.times, x.iv, .bool x.final] 31)) := ((Below.refl _ w).alloc (Nat.le_refl _) _).alloc (by simp) _
  have h1 : Blk ((w.alloc (.cells #[.int .i64 x.kind, .string x.name, .int .i64 x.line, .int .i64 x.col, .int .i64 x.init, x.nv, .string x.role, .string x.stage, .string x.event, .int .i64 x.times, x.iv, .bool x.final] 31)).alloc (.cells #[.int .i64 x.kind, .string x.name, .int .i64 x.line, .int .i64 x.col, .int .i64 x.init, x.nv, .string x.role, .string x.stage, .string x.event, .int .i64 x.times, x.iv, .bool x.final] 31)) w.heap.size #[.int .i64 x.kind, .string x.name, .int .i64 x.line, .int .i64 x.col, .int .i64 x.init, x.nv, .string x.role, .string x.stage, .string x.event, .int .i64 x.times, x.iv, .bool x.final] 31 := (Blk.new w _ _).alloc _
  have h2 : Blk ((w.alloc (.cells #[.int .i64 x.kind, .string x.name, .int .i64 x.line, .int .i64 x.col, .int .i64 x.init, x.nv, .string x.role, .string x.stage, .string x.event, .int .i64 x.times, x.iv, .bool x.final] 31)).alloc (.cells #[.int .i64 x.kind, .string x.name, .int .i64 x.line, .int .i64 x.col, .int .i64 x.init, x.nv, .string x.role, .string x.stage, .string x.event, .int .i64 x.times, x.iv, .bool x.final] 31)) (w.heap.size + 1) #[.int .i64 x.kind, .string x.name, .int .i64 x.line, .int .i64 x.col, .int .i64 x.init, x.nv, .string x.role, .string x.stage, .string x.event, .int .i64 x.times, x.iv, .bool x.final] 31 := by have := Blk.new (w.alloc (.cells #[.int .i64 x.kind, .string x.name, .int .i64 x.line, .int .i64 x.col, .int .i64 x.init, x.nv, .string x.role, .string x.stage, .string x.event, .int .i64 x.times, x.iv, .bool x.final] 31)) #[.int .i64 x.kind, .string x.name, .int .i64 x.line, .int .i64 x.col, .int .i64 x.init, x.nv, .string x.role, .string x.stage, .string x.event, .int .i64 x.times, x.iv, .bool x.final] 31; simpa using this
  have hk := h.keep HB
  obtain ⟨a0, a1, a2, a3, a4, a5, a6, a7, a8, a9, a10, a11⟩ := h1.twelve
  obtain ⟨b0, b1, b2, b3, b4, b5, b6, b7, b8, b9, b10, b11⟩ := h2.twelve
  have HC1 := Lib.hid (sameNames_in hk.1 hk.1 hl.1)
  have HC2 := Lib.hid (fun n => same4_in (hk.2.keep (below_dn ((w.alloc (.cells #[.int .i64 x.kind, .string x.name, .int .i64 x.line, .int .i64 x.col, .int .i64 x.init, x.nv, .string x.role, .string x.stage, .string x.event, .int .i64 x.times, x.iv, .bool x.final] 31)).alloc (.cells #[.int .i64 x.kind, .string x.name, .int .i64 x.line, .int .i64 x.col, .int .i64 x.init, x.nv, .string x.role, .string x.stage, .string x.event, .int .i64 x.times, x.iv, .bool x.final] 31)) n)) (hk.2.keep (below_dn ((w.alloc (.cells #[.int .i64 x.kind, .string x.name, .int .i64 x.line, .int .i64 x.col, .int .i64 x.init, x.nv, .string x.role, .string x.stage, .string x.event, .int .i64 x.times, x.iv, .bool x.final] 31)).alloc (.cells #[.int .i64 x.kind, .string x.name, .int .i64 x.line, .int .i64 x.col, .int .i64 x.init, x.nv, .string x.role, .string x.stage, .string x.event, .int .i64 x.times, x.iv, .bool x.final] 31)) n)) hl.2)
  have HB2 := Lib.hid HB
  clear h hl HB h1 h2 hk
  go_enter Try.func31, Try.ntmps31
  go_wp2_with fail
  refine HC1.out.mono ?_
  rintro e w1 ⟨rfl, n, rfl⟩
  go_wp2_with fail
  refine (HC2.out n).mono ?_
  rintro e w1 ⟨rfl, m, rfl⟩
  go_wp2
  go_ret
  exact ⟨rfl, Go.below_drewN HB2.out _⟩

end Go.Proofs.Ytjmggphnngffjaa
