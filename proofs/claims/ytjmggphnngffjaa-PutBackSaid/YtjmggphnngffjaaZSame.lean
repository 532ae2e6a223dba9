/- Same of warderref22: of two zones that are the same. -/
import Derived.Test.YtjmggphnngffjaaDrop4
import Derived.Test.YtjmggphnngffjaaHalveRef
namespace Go.Proofs.Ytjmggphnngffjaa
open Go.RowKit

set_option maxRecDepth 100000 in
set_option maxHeartbeats 2000000 in
/-- Same, where both are the same -/
theorem zsame_eq (b1 b2 : Nat) (v1 v2 u1 u2 : Value) (cl : List (Int × Int)) (gl : List Int) (w : World) (h1 : ZoneAt w b1 v1 v2 cl gl) (h2 : ZoneAt w b2 u1 u2 cl gl) (hcl : cl.length ≤ 65536) (hgl : gl.length ≤ 65536) :
    Calls Try.prog 23 #[.agg #[v1, v2], .agg #[u1, u2]] w fun e w' => e = .returned (.bool true) ∧ Below w.heap.size w w' := by
  have x2 := (Box2.new w v1 v2).alloc (.cells #[u1, u2] 45)
  have x3 := Box2.new (w.alloc (.cells #[v1, v2] 45)) u1 u2
  simp only [World.size_alloc] at x3
  have hb0 : Below w.heap.size w ((w.alloc (.cells #[v1, v2] 45)).alloc (.cells #[u1, u2] 45)) := ((Below.refl _ w).alloc (Nat.le_refl _) _).alloc (by simp) _
  have hs0 : ((w.alloc (.cells #[v1, v2] 45)).alloc (.cells #[u1, u2] 45)).heap.size = w.heap.size + 2 := by simp
  have z1 := h1.below hb0
  have z2 := h2.below hb0
  obtain ⟨a1, k1, e1⟩ := owns_len h1.1
  obtain ⟨a2, k2, e2⟩ := owns_len h1.2
  obtain ⟨a3, k3, e3⟩ := owns_len h2.1
  obtain ⟨a4, k4, e4⟩ := owns_len h2.2
  obtain ⟨n, hn⟩ : ∃ n, cl.length = n := ⟨_, rfl⟩
  obtain ⟨m, hm⟩ : ∃ m, gl.length = m := ⟨_, rfl⟩
  have HN := Lib.hid hn; have HM := Lib.hid hm
  rw [hn] at e1 e3 hcl; rw [hm] at e2 e4 hgl
  subst e1; subst e2; subst e3; subst e4
  have X2 := Lib.hid x2; have X3 := Lib.hid x3; have Z1 := Lib.hid z1; have Z2 := Lib.hid z2; have HB0 := Lib.hid hb0
  clear x2 x3 z1 z2 hb0 h1 h2 hn hm
  go_enter Try.func23, Try.ntmps23
  go_wp2
  obtain ⟨W0, hW0⟩ : ∃ W0, ((w.alloc (.cells #[.slice a1 n k1, .slice a2 m k2] 45)).alloc (.cells #[.slice a3 n k3, .slice a4 m k4] 45)) = W0 := ⟨_, rfl⟩
  rw [hW0] at X2 X3 Z1 Z2 HB0 hs0 ⊢
  clear hW0
  go_loopw [5] (fun i wr => ∃ k : Nat, i = .int .i64 k ∧ k ≤ n ∧ Hid (Below W0.heap.size W0 wr)) (fun i _ => n - (intOf i).toNat)
  case atStart => exact ⟨0, rfl, Nat.zero_le _, Below.refl _ _⟩
  case round =>
    obtain ⟨k, rfl, hk, hb⟩ := hrel
    have x2 : Box2 wr w.heap.size _ _ := (hb.out.block _ X2.out.lt).trans X2.out
    have x3 : Box2 wr (w.heap.size + 1) _ _ := (hb.out.block _ X3.out.lt).trans X3.out
    have c20 := x2.c0; have c21 := x2.c1; have c30 := x3.c0; have c31 := x3.c1
    by_cases hlt : k < n
    · have p1 : (k : Int) < (n : Int) := by omega
      have hkl : k < cl.length := by rw [HN.out]; exact hlt
      obtain ⟨x, hx⟩ : ∃ x, cl[k]? = some x := ⟨_, List.getElem?_eq_getElem hkl⟩
      have cx := cellsP_get _ _ _ hx
      have y1 := owns_below Z1.out.1 hb.out; have y2 := owns_below Z2.out.1 hb.out
      obtain ⟨g, q1, t1⟩ := owns_slice y1 (by omega)
      obtain ⟨g', q2, t2⟩ := owns_slice y2 (by omega)
      cases t1; cases t2
      have d1 : wr.cell? ⟨g, k * 2, none⟩ = some (.int .i64 x.1) := by rw [y1.cellAt _ (by omega)]; exact cx.1
      have d2 : wr.cell? ⟨g, k * 2 + 1, none⟩ = some (.int .i64 x.2) := by rw [y1.cellAt _ (by omega)]; exact cx.2
      have d3 : wr.cell? ⟨g', k * 2, none⟩ = some (.int .i64 x.1) := by rw [y2.cellAt _ (by omega)]; exact cx.1
      have d4 : wr.cell? ⟨g', k * 2 + 1, none⟩ = some (.int .i64 x.2) := by rw [y2.cellAt _ (by omega)]; exact cx.2
      obtain ⟨xa, xb⟩ := x
      dsimp only at d1 d2 d3 d4
      clear cx hx x2 x3 y1 y2
      go_wp2
      go_quiet (fail)
      go_wp2
      go_roundw
      case rel => exact ⟨k + 1, by go_num, by omega, Lib.hid (below_drewN hb.out _)⟩
      case measure => simp [intOf]; omega
    · obtain rfl : k = n := by omega
      clear x2 x3 hlt
      go_wp2
      obtain ⟨W1, rfl⟩ : ∃ W1, W1 = wr := ⟨_, rfl⟩
      go_loopw [6] (fun i wr => ∃ j : Nat, i = .int .i64 j ∧ j ≤ m ∧ Hid (Below W0.heap.size W0 wr)) (fun i _ => m - (intOf i).toNat)
      case atStart => exact ⟨0, rfl, Nat.zero_le _, hb⟩
      case round =>
        clear c20 c21 c30 c31 hb
        obtain ⟨j, rfl, hj, hb⟩ := hrel
        have x2 : Box2 wr w.heap.size _ _ := (hb.out.block _ X2.out.lt).trans X2.out
        have x3 : Box2 wr (w.heap.size + 1) _ _ := (hb.out.block _ X3.out.lt).trans X3.out
        have c20 := x2.c0; have c21 := x2.c1; have c30 := x3.c0; have c31 := x3.c1
        by_cases hlt : j < m
        · have p1 : (j : Int) < (m : Int) := by omega
          have hkl : j < gl.length := by rw [HM.out]; exact hlt
          obtain ⟨x, hx⟩ : ∃ x, gl[j]? = some x := ⟨_, List.getElem?_eq_getElem hkl⟩
          have cx : (ints gl)[j]? = some (.int .i64 x) := by simp [ints, hx]
          have y1 := owns_below Z1.out.2 hb.out; have y2 := owns_below Z2.out.2 hb.out
          obtain ⟨g, q1, t1⟩ := owns_slice y1 (by omega)
          obtain ⟨g', q2, t2⟩ := owns_slice y2 (by omega)
          cases t1; cases t2
          have d1 : wr.cell? ⟨g, j, none⟩ = some (.int .i64 x) := by rw [y1.cellAt _ (by omega)]; exact cx
          have d3 : wr.cell? ⟨g', j, none⟩ = some (.int .i64 x) := by rw [y2.cellAt _ (by omega)]; exact cx
          clear cx hx x2 x3 y1 y2
          go_wp2
          go_quiet (fail)
          go_wp2
          go_roundw
          case rel => exact ⟨j + 1, by go_num, by omega, Lib.hid (below_drewN hb.out _)⟩
          case measure => simp [intOf]; omega
        · obtain rfl : j = m := by omega
          have HF := Lib.hid (HB0.out.trans (hb.out.mono HB0.out.size))
          clear x2 x3 hlt
          go_wp2
          go_ret
          exact ⟨rfl, HF.out⟩

end Go.Proofs.Ytjmggphnngffjaa
