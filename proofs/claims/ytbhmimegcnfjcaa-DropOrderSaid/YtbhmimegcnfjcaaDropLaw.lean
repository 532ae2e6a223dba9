/- The laws of chapter 23: awake, DropLeaves, DropOrder. -/
import Derived.Test.YtbhmimegcnfjcaaZone2
import Derived.Test.YtbhmimegcnfjcaaZSame
namespace Go.Proofs.Ytbhmimegcnfjcaa
open Go.RowKit

/-- a written zone in new memory -/
theorem zone_lit (w : World) (cl : List (Int × Int)) (gl : List Int) (us vs : Array Value) (hu : us.toList = cellsP cl) (hv : vs.toList = ints gl) (h1 : cl.length ≤ 16) (h2 : gl.length ≤ 16) :
    ZoneAt ((w.alloc (.cells us 88)).alloc (.cells vs 3)) w.heap.size (.slice (some ⟨w.heap.size, 0, none⟩) cl.length cl.length) (.slice (some ⟨w.heap.size + 1, 0, none⟩) gl.length gl.length) cl gl := by
  have a1 : (w.alloc (.cells us 88)).ownsRow w.heap.size 88 2 (.slice (some ⟨w.heap.size, 0, none⟩) cl.length cl.length) cl.length (cellsP cl) := by
    rw [← hu]
    exact World.ownsRow_lit w us cl.length (Nat.le_refl _) (by unfold maxLen; omega) (by rw [← Array.length_toList, hu, cellsP_len])
  have a2 : ((w.alloc (.cells us 88)).alloc (.cells vs 3)).ownsRow (w.alloc (.cells us 88)).heap.size 3 1 (.slice (some ⟨(w.alloc (.cells us 88)).heap.size, 0, none⟩) gl.length gl.length) gl.length (ints gl) := by
    rw [← hv]
    exact World.ownsRow_lit _ vs gl.length (Nat.le_refl _) (by unfold maxLen; omega) (by rw [← Array.length_toList, hv, ints_len, Nat.mul_one])
  rw [World.size_alloc] at a2
  exact ⟨a1.alloc _, owns_mono a2 (Nat.le_succ _)⟩

theorem drop_123 : dropZ 1 3 [(1, -1), (2, -1), (4, -1)] [1, 2] = ([(1, -1), (4, -1)], [4]) := by decide +kernel

set_option maxRecDepth 100000 in
set_option maxHeartbeats 2000000 in
theorem awake23 (w : World) :
    Calls Try.prog 50 #[] w fun e w' => e = .returned (.bool true) ∧ Below w.heap.size w w' := by
  have HL := Lib.hid (zone_lit w [(1, -1), (2, -1), (4, -1)] [1, 2] #[.int .i64 1, .int .i64 (-1), .int .i64 2, .int .i64 (-1), .int .i64 4, .int .i64 (-1)] #[.int .i64 1, .int .i64 2] rfl rfl (by decide) (by decide))
  have HD := Lib.hid ((drop_any w.heap.size _ _ [(1, -1), (2, -1), (4, -1)] [1, 2] 1 3 _ HL.out (by decide) (by decide)).mono (R' := fun e w' => ∃ g1 c1 g2 c2, e = .returned (.agg #[.slice (some ⟨g1, 0, none⟩) 2 c1, .slice (some ⟨g2, 0, none⟩) 1 c2]) ∧ ZoneAt w' (w.heap.size + 2) (.slice (some ⟨g1, 0, none⟩) 2 c1) (.slice (some ⟨g2, 0, none⟩) 1 c2) [(1, -1), (4, -1)] [4] ∧ Below w.heap.size w w')
    fun e w' h => by
      obtain ⟨g1, c1, g2, c2, he, hz, hb⟩ := h
      rw [drop_123] at he hz
      refine ⟨g1, c1, g2, c2, he, by simpa using hz, ?_⟩
      exact (((Below.refl w.heap.size w).alloc (Nat.le_refl _) _).alloc (by simp) _).trans (hb.mono (by simp; omega)))
  go_enter Try.func50, Try.ntmps50
  go_wp2_with fail
  refine HD.out.mono ?_
  rintro e w1 ⟨g1, c1, g2, c2, rfl, z, hb⟩
  have hbx := hb.alloc hb.size (.cells #[.slice (some ⟨g1, 0, none⟩) 2 c1, .slice (some ⟨g2, 0, none⟩) 1 c2] 55)
  have hs : (w1.alloc (.cells #[.slice (some ⟨g1, 0, none⟩) 2 c1, .slice (some ⟨g2, 0, none⟩) 1 c2] 55)).heap.size = w1.heap.size + 1 := by simp
  have z2 := zone_lit (w1.alloc (.cells #[.slice (some ⟨g1, 0, none⟩) 2 c1, .slice (some ⟨g2, 0, none⟩) 1 c2] 55)) [(1, -1), (4, -1)] [4] #[.int .i64 1, .int .i64 (-1), .int .i64 4, .int .i64 (-1)] #[.int .i64 4] rfl rfl (by decide) (by decide)
  rw [hs] at z2
  have hb3 := ((Below.refl w1.heap.size w1).alloc (Nat.le_refl _) (.cells #[.slice (some ⟨g1, 0, none⟩) 2 c1, .slice (some ⟨g2, 0, none⟩) 1 c2] 55)).alloc (by simp) (.cells #[.int .i64 1, .int .i64 (-1), .int .i64 4, .int .i64 (-1)] 88) |>.alloc (by simp; omega) (.cells #[.int .i64 4] 3)
  have Z1 := Lib.hid (z.below hb3)
  have Z2 := Lib.hid z2
  have HB := Lib.hid (hb.trans (hb3.mono hb.size))
  clear z z2 hb hbx hs hb3 HD HL
  go_wp2_with fail
  refine (zsame_eq _ _ _ _ _ _ [(1, -1), (4, -1)] [4] _ Z1.out Z2.out (by decide) (by decide)).mono ?_
  rintro e w2 ⟨rfl, hb2⟩
  have HF := Lib.hid (HB.out.trans (hb2.mono HB.out.size))
  clear hb2 Z1 Z2 HB
  go_wp2
  go_ret
  exact ⟨rfl, HF.out⟩

end Go.Proofs.Ytbhmimegcnfjcaa
