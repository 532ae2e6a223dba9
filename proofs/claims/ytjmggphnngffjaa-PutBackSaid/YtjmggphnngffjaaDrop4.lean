/- All and Clip of package drop. -/
import Derived.Test.YtjmggphnngffjaaDrop3
import Derived.Test.YtjmggphnngffjaaSrt
namespace Go.Proofs.Ytjmggphnngffjaa
open Go.RowKit

theorem cutG_le (gl : List Int) (n i : Nat) (r : Int) : (cutG gl n i r).length ≤ gl.length := by
  unfold cutG
  split
  · exact Nat.le_refl _
  · split
    · exact (List.eraseIdx_sublist _ _).length_le
    · split
      · exact (List.eraseIdx_sublist _ _).length_le
      · refine Nat.le_trans (List.eraseIdx_sublist _ _).length_le ?_
        rw [List.length_set]; exact Nat.le_refl _

theorem dropGo_len (a r : Int) : ∀ (f i : Nat) (cl : List (Int × Int)) (gl : List Int), (dropGo a r f i cl gl).1.length ≤ cl.length ∧ (dropGo a r f i cl gl).2.length ≤ gl.length
  | 0, _, cl, gl => ⟨Nat.le_refl _, Nat.le_refl _⟩
  | f + 1, i, cl, gl => by
    rw [dropGo]
    split
    · exact dropGo_len a r f (i + 1) cl gl
    · split
      · have h := dropGo_len a r f i ((cl.set i (putZ (cl.getD i (0, 0)).1 a false, (cl.getD i (0, 0)).2)).eraseIdx i) (cutG gl cl.length i r)
        refine ⟨Nat.le_trans h.1 ?_, Nat.le_trans h.2 (cutG_le _ _ _ _)⟩
        refine Nat.le_trans (List.eraseIdx_sublist _ _).length_le ?_
        rw [List.length_set]; exact Nat.le_refl _
      · have h := dropGo_len a r f (i + 1) (cl.set i (putZ (cl.getD i (0, 0)).1 a false, (cl.getD i (0, 0)).2)) gl
        rwa [List.length_set] at h

theorem dropZ_len (a r : Int) (cl : List (Int × Int)) (gl : List Int) : (dropZ a r cl gl).1.length ≤ cl.length ∧ (dropZ a r cl gl).2.length ≤ gl.length := by
  unfold dropZ
  split
  · exact dropGo_len _ _ _ _ _ _
  · exact ⟨Nat.le_refl _, Nat.le_refl _⟩

/-- a zone without the attributes of a list -/
def allZ (r : Int) (l : List Int) (z : List (Int × Int) × List Int) : List (Int × Int) × List Int := l.foldl (fun z a => dropZ a r z.1 z.2) z

theorem allZ_step (r : Int) (l : List Int) (z : List (Int × Int) × List Int) (k : Nat) (a : Int) (h : l[k]? = some a) : allZ r (l.take (k + 1)) z = dropZ a r (allZ r (l.take k) z).1 (allZ r (l.take k) z).2 := by
  obtain ⟨hk, rfl⟩ := List.getElem?_eq_some_iff.1 h
  rw [List.take_succ_eq_append_getElem hk, allZ, List.foldl_append]
  rfl

theorem allZ_len (r : Int) : ∀ (l : List Int) (z : List (Int × Int) × List Int), (allZ r l z).1.length ≤ z.1.length ∧ (allZ r l z).2.length ≤ z.2.length
  | [], _ => ⟨Nat.le_refl _, Nat.le_refl _⟩
  | a :: l, z => by
    have h := allZ_len r l (dropZ a r z.1 z.2)
    have k := dropZ_len a r z.1 z.2
    exact ⟨Nat.le_trans h.1 k.1, Nat.le_trans h.2 k.2⟩

/-- where a loop over a zone in a box stands -/
structure BoxAt (w : World) (B7 : Nat) (z : List (Int × Int) × List Int) (g1 cap1 g2 cap2 : Nat) (W : World) : Prop where
  box : Box2 W B7 (.slice (some ⟨g1, 0, none⟩) z.1.length cap1) (.slice (some ⟨g2, 0, none⟩) z.2.length cap2)
  res : Box2 W (w.heap.size + 1) (.slice none 0 0) (.slice none 0 0)
  zone : ZoneAt W (w.heap.size + 2) (.slice (some ⟨g1, 0, none⟩) z.1.length cap1) (.slice (some ⟨g2, 0, none⟩) z.2.length cap2) z.1 z.2
  low : Below w.heap.size w W
  ib : w.heap.size + 2 ≤ B7

/-- the gaps, those ahead of a place clipped -/
def clipG (gl : List Int) (r : Int) (k : Nat) : List Int := (gl.take k).map (fun g => klip g r) ++ gl.drop k
theorem clipG_len (gl : List Int) (r : Int) (k : Nat) : (clipG gl r k).length = gl.length := by
  unfold clipG; simp; omega
theorem clipG_get (gl : List Int) (r : Int) (k : Nat) (h : k < gl.length) : (clipG gl r k)[k]? = gl[k]? := by
  unfold clipG
  rw [List.getElem?_append_right (by rw [List.length_map, List.length_take]; omega)]
  simp [Nat.min_eq_left (Nat.le_of_lt h)]
theorem clipG_step (gl : List Int) (r : Int) (k : Nat) (x : Int) (h : gl[k]? = some x) : clipG gl r (k + 1) = (clipG gl r k).set k (klip x r) := by
  obtain ⟨hk, rfl⟩ := List.getElem?_eq_some_iff.1 h
  unfold clipG
  rw [List.take_succ_eq_append_getElem hk, List.map_append, List.drop_eq_getElem_cons hk, List.append_assoc, List.set_append_right _ _ (by rw [List.length_map, List.length_take]; omega),
    show k - ((gl.take k).map fun g => klip g r).length = 0 by rw [List.length_map, List.length_take]; omega]
  rfl
theorem clipG_all (gl : List Int) (r : Int) : clipG gl r gl.length = gl.map (fun g => klip g r) := by unfold clipG; simp

set_option maxRecDepth 100000 in
set_option maxHeartbeats 4000000 in
theorem dropClip_any (base : Nat) (v1 v2 : Value) (cl0 : List (Int × Int)) (gl0 : List Int) (r : Int) (w : World) (hz : ZoneAt w base v1 v2 cl0 gl0) (hcl : cl0.length ≤ 65536) (hgl : gl0.length ≤ 65536) :
    Calls Try.prog 73 #[.agg #[v1, v2], .int .i64 r] w fun e w' => ∃ g1 g2, e = .returned (.agg #[.slice (some ⟨g1, 0, none⟩) cl0.length cl0.length, .slice (some ⟨g2, 0, none⟩) gl0.length gl0.length]) ∧
      ZoneAt w' w.heap.size (.slice (some ⟨g1, 0, none⟩) cl0.length cl0.length) (.slice (some ⟨g2, 0, none⟩) gl0.length gl0.length) cl0 (gl0.map fun g => klip g r) ∧ Below w.heap.size w w' := by
  have x1 := (Box2.new w v1 v2).alloc (.cells #[.slice none 0 0, .slice none 0 0] 45)
  have x2 := Box2.new (w.alloc (.cells #[v1, v2] 45)) (.slice none 0 0) (.slice none 0 0)
  simp only [World.size_alloc] at x2
  have hb0 : Below w.heap.size w ((w.alloc (.cells #[v1, v2] 45)).alloc (.cells #[.slice none 0 0, .slice none 0 0] 45)) := ((Below.refl _ w).alloc (Nat.le_refl _) _).alloc (by simp) _
  have z0 : ZoneAt ((w.alloc (.cells #[v1, v2] 45)).alloc (.cells #[.slice none 0 0, .slice none 0 0] 45)) base v1 v2 cl0 gl0 := hz.below hb0
  have hs0 : ((w.alloc (.cells #[v1, v2] 45)).alloc (.cells #[.slice none 0 0, .slice none 0 0] 45)).heap.size = w.heap.size + 2 := by simp
  have hown := Lib.hid (dropOwn_any base v1 v2 cl0 gl0 _ z0 hcl hgl)
  obtain ⟨N, hN⟩ : ∃ N, cl0.length = N := ⟨_, rfl⟩
  obtain ⟨M, hM⟩ : ∃ M, gl0.length = M := ⟨_, rfl⟩
  rw [hN] at hcl; rw [hM] at hgl
  have X1 := Lib.hid x1; have X2 := Lib.hid x2; have HB0 := Lib.hid hb0; have Z0 := Lib.hid z0; have HS0 := Lib.hid hs0
  have HN := Lib.hid hN; have HM := Lib.hid hM
  clear x1 x2 hb0 z0 hs0 hN hM
  go_enter Try.func73, Try.ntmps73
  go_wp2_with fail
  refine hown.out.mono ?_
  rintro e W2 ⟨g1, g2, rfl, zo, hb⟩
  rw [HN.out, HM.out] at zo ⊢
  have hsz2 := hb.size
  rw [HS0.out] at hsz2 zo
  have y1 := (X1.out.kept (row := none) ⟨hb.os, hb.tape, hb.output, hb.size, fun k hk _ => hb.block k hk⟩ (by simp)).alloc (.cells #[.slice (some ⟨g1, 0, none⟩) N N, .slice (some ⟨g2, 0, none⟩) M M] 45)
  have y2 := (X2.out.kept (row := none) ⟨hb.os, hb.tape, hb.output, hb.size, fun k hk _ => hb.block k hk⟩ (by simp)).alloc (.cells #[.slice (some ⟨g1, 0, none⟩) N N, .slice (some ⟨g2, 0, none⟩) M M] 45)
  have y7 := Box2.new W2 (.slice (some ⟨g1, 0, none⟩) N N) (.slice (some ⟨g2, 0, none⟩) M M)
  have hb2 : Below w.heap.size w (W2.alloc (.cells #[.slice (some ⟨g1, 0, none⟩) N N, .slice (some ⟨g2, 0, none⟩) M M] 45)) := (HB0.out.trans (hb.mono HB0.out.size)).alloc (by omega) _
  have zo2 : ZoneAt (W2.alloc (.cells #[.slice (some ⟨g1, 0, none⟩) N N, .slice (some ⟨g2, 0, none⟩) M M] 45)) (w.heap.size + 2) (.slice (some ⟨g1, 0, none⟩) N N) (.slice (some ⟨g2, 0, none⟩) M M) cl0 gl0 := zo.below ((Below.refl _ W2).alloc (Nat.le_refl _) _)
  have zo3 := zo2.1
  have zo4 := zo2.2
  rw [HN.out] at zo3
  rw [HM.out] at zo4
  have hpos : ∀ k x, gl0[k]? = some x → (clipG gl0 r k)[k]? = some x := fun k x h => (clipG_get gl0 r k (List.getElem?_eq_some_iff.1 h).1).trans h
  have HP := Lib.hid hpos
  obtain ⟨cur1, q1, b1⟩ := owns_row zo3
  obtain ⟨cur2, q2, b2⟩ := owns_row zo4
  have hg12 : g1 ≠ g2 := fun e => by subst e; rw [q1] at q2; cases q2
  have hB2 : W2.heap.size ≠ g2 := fun e => by have := y7; unfold Box2 at this; rw [e, q2] at this; cases this
  have h0 : clipG gl0 r 0 = gl0 := by unfold clipG; simp
  have HZZ : Hid (Box2 (W2.alloc (.cells #[.slice (some ⟨g1, 0, none⟩) N N, .slice (some ⟨g2, 0, none⟩) M M] 45)) W2.heap.size (.slice (some ⟨g1, 0, none⟩) N N) (.slice (some ⟨g2, 0, none⟩) M M) ∧
      Box2 (W2.alloc (.cells #[.slice (some ⟨g1, 0, none⟩) N N, .slice (some ⟨g2, 0, none⟩) M M] 45)) (w.heap.size + 1) (.slice none 0 0) (.slice none 0 0) ∧
      (W2.alloc (.cells #[.slice (some ⟨g1, 0, none⟩) N N, .slice (some ⟨g2, 0, none⟩) M M] 45)).ownsRow (w.heap.size + 2) 63 2 (.slice (some ⟨g1, 0, none⟩) N N) N (cellsP cl0) ∧
      (W2.alloc (.cells #[.slice (some ⟨g1, 0, none⟩) N N, .slice (some ⟨g2, 0, none⟩) M M] 45)).ownsRow (w.heap.size + 2) 3 1 (.slice (some ⟨g2, 0, none⟩) M M) M (ints (clipG gl0 r 0)) ∧
      Below w.heap.size w (W2.alloc (.cells #[.slice (some ⟨g1, 0, none⟩) N N, .slice (some ⟨g2, 0, none⟩) M M] 45))) := ⟨y7, y2, zo3, by rw [h0]; exact zo4, hb2⟩
  have hmx : Try.prog.follows .mixedOrders = true := by kernel_rfl
  have c1 := y7.c1
  clear hb y1 y2 y7 hb2 zo zo2 zo3 zo4 q1 q2 X1 X2 HB0 Z0 hown hpos h0
  go_wp2
  go_loopw [6, 7, 13] (fun _ _ i wr => ∃ k : Nat, i = .int .i64 k ∧ k ≤ M ∧ Hid (Box2 wr W2.heap.size (.slice (some ⟨g1, 0, none⟩) N N) (.slice (some ⟨g2, 0, none⟩) M M) ∧ Box2 wr (w.heap.size + 1) (.slice none 0 0) (.slice none 0 0) ∧
      wr.ownsRow (w.heap.size + 2) 63 2 (.slice (some ⟨g1, 0, none⟩) N N) N (cellsP cl0) ∧ wr.ownsRow (w.heap.size + 2) 3 1 (.slice (some ⟨g2, 0, none⟩) M M) M (ints (clipG gl0 r k)) ∧ Below w.heap.size w wr)) (fun _ _ i _ => M - (intOf i).toNat)
  case atStart => exact ⟨0, rfl, Nat.zero_le _, HZZ.out⟩
  case round =>
    clear HZZ
    obtain ⟨k, rfl, hk, HA⟩ := hrel
    have c1 := HA.out.1.c1
    by_cases hlt : k < M
    · have hkl : k < gl0.length := by rw [HM.out]; exact hlt
      obtain ⟨x, hx⟩ : ∃ x, gl0[k]? = some x := ⟨_, List.getElem?_eq_getElem hkl⟩
      have HST := Lib.hid (clipG_step gl0 r k x hx)
      have k1 : wr.cell? ⟨g2, k, none⟩ = some (.int .i64 x) := by
        rw [HA.out.2.2.2.1.cellAt _ (by omega)]
        simp [ints, HP.out k x hx]
      have k3 := owns_frozen HA.out.2.2.2.1 k
      have p1 : (k : Int) < (M : Int) := by omega
      have p0 : (0 : Int) ≤ (k : Int) := by omega
      clear hx
      go_wp2
      refine wp_region_still_tail 7 hmx (by kernel_rfl) ?_
      simp only [List.take_succ_cons, List.take_zero, List.drop_succ_cons, List.drop_zero]
      repeat still_step
      still_call ((clip_any x r _).mono fun e w' h => ⟨h.1, h.2.symm⟩)
      repeat still_step
      refine wpStill_nil ?_
      change wpList _ _ _ _ _ wr.drew
      obtain ⟨W9, hW9⟩ : ∃ W9, wr.drew = W9 := ⟨_, rfl⟩
      have HA9 : Hid (Box2 W9 W2.heap.size (.slice (some ⟨g1, 0, none⟩) N N) (.slice (some ⟨g2, 0, none⟩) M M) ∧ Box2 W9 (w.heap.size + 1) (.slice none 0 0) (.slice none 0 0) ∧
        W9.ownsRow (w.heap.size + 2) 63 2 (.slice (some ⟨g1, 0, none⟩) N N) N (cellsP cl0) ∧ W9.ownsRow (w.heap.size + 2) 3 1 (.slice (some ⟨g2, 0, none⟩) M M) M (ints (clipG gl0 r k)) ∧ Below w.heap.size w W9) := by
        rw [← hW9]; exact ⟨HA.out.1, HA.out.2.1, HA.out.2.2.1, HA.out.2.2.2.1, HA.out.2.2.2.2.drew⟩
      have k1' : W9.cell? ⟨g2, k, none⟩ = some (.int .i64 x) := by rw [← hW9]; exact k1
      have k3' : W9.frozen? ⟨g2, k, none⟩ = false := by rw [← hW9]; exact k3
      rw [hW9]
      clear hW9 HA k1 k3 c1
      obtain ⟨z, hz⟩ : ∃ z, klip x r = z := ⟨_, rfl⟩
      unfold Hid at HST
      rw [hz] at HST ⊢
      have HST := Lib.hid HST
      have HG : Hid (Box2 (W9.setCell ⟨g2, k, none⟩ (.int .i64 z)) W2.heap.size (.slice (some ⟨g1, 0, none⟩) N N) (.slice (some ⟨g2, 0, none⟩) M M) ∧ Box2 (W9.setCell ⟨g2, k, none⟩ (.int .i64 z)) (w.heap.size + 1) (.slice none 0 0) (.slice none 0 0) ∧
        (W9.setCell ⟨g2, k, none⟩ (.int .i64 z)).ownsRow (w.heap.size + 2) 63 2 (.slice (some ⟨g1, 0, none⟩) N N) N (cellsP cl0) ∧ (W9.setCell ⟨g2, k, none⟩ (.int .i64 z)).ownsRow (w.heap.size + 2) 3 1 (.slice (some ⟨g2, 0, none⟩) M M) M (ints (clipG gl0 r (k + 1))) ∧ Below w.heap.size w (W9.setCell ⟨g2, k, none⟩ (.int .i64 z))) := by
        refine ⟨HA9.out.1.other _ hB2 _, HA9.out.2.1.other _ (by simp; omega) _, ownsRow_setCell_other HA9.out.2.2.1 (by simp [Value.ownBlock]; omega) _, ?_, HA9.out.2.2.2.2.setCell (p := ⟨g2, k, none⟩) (by simp; omega) _⟩
        rw [HST.out, show ints ((clipG gl0 r k).set k z) = (ints (clipG gl0 r k)).set k (.int .i64 z) by unfold ints; rw [List.map_set]]
        exact owns_set HA9.out.2.2.2.1 _ _
      clear HA9 hz
      go_wp2
      go_roundw
      case rel => exact ⟨k + 1, by go_num, by omega, HG⟩
      case measure => simp [intOf]; omega
    · obtain rfl : k = M := by omega
      have c0 := HA.out.1.c0
      have c3 := HA.out.2.1.c0; have c4 := HA.out.2.1.c1; have c5 := HA.out.2.1.z0 0; have c6 := HA.out.2.1.z0 1
      have c7 := HA.out.2.1.lt
      have HE : Hid (clipG gl0 r k = gl0.map fun g => klip g r) := by unfold Hid; rw [← HM.out]; exact clipG_all gl0 r
      go_wp2
      have v1 := (HA.out.2.1.s0 (.slice (some ⟨g1, 0, none⟩) N N)).s1 (.slice (some ⟨g2, 0, none⟩) k k)
      have e6 := v1.c0; have e7 := v1.c1
      refine bodyPost_ret (v := .agg #[.slice (some ⟨g1, 0, none⟩) N N, .slice (some ⟨g2, 0, none⟩) k k]) (by simp [results, Try.results73, go_sem, e6, e7]) rfl ?_
      rw [HN.out, HM.out]
      have hml : (gl0.map fun g => klip g r).length = k := by rw [List.length_map]; exact HM.out
      refine ⟨g1, g2, rfl, ZoneAt.mono ⟨?_, ?_⟩ (by omega : w.heap.size ≤ w.heap.size + 2), (HA.out.2.2.2.2.setCell (p := ⟨w.heap.size + 1, 0, none⟩) (by simp) _).setCell (p := ⟨w.heap.size + 1, 1, none⟩) (by simp) _⟩
      · rw [HN.out]; exact ownsRow_setCell_other (ownsRow_setCell_other HA.out.2.2.1 (HA.out.2.1.row HA.out.2.2.1 (by decide)) _) (HA.out.2.1.row HA.out.2.2.1 (by decide)) _
      · rw [hml, ← HE.out]; exact ownsRow_setCell_other (ownsRow_setCell_other HA.out.2.2.2.1 (HA.out.2.1.row HA.out.2.2.2.1 (by decide)) _) (HA.out.2.1.row HA.out.2.2.2.1 (by decide)) _

end Go.Proofs.Ytjmggphnngffjaa
