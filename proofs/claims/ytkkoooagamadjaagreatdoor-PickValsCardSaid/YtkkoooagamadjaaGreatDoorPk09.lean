/- Drop of package drop: a zone without an attribute. Reading of slices, and Sorted and Gap of warderref03. -/
import Derived.Test.YtkkoooagamadjaaGreatDoorPk08
import Derived.Test.YtkkoooagamadjaaGreatDoorPk01

namespace Go.Proofs.YtkkoooagamadjaaGreatDoor
open Go.RowKit

/-- the classes and gaps from a place on, without an attribute -/
def dropGo (a r : Int) : Nat → Nat → List (Int × Int) → List Int → List (Int × Int) × List Int
  | 0, _, cl, gl => (cl, gl)
  | f + 1, i, cl, gl =>
    if hasB (cl.getD i (0, 0)).1 a = false then dropGo a r f (i + 1) cl gl
    else if putZ (cl.getD i (0, 0)).1 a false = 0 ∧ (cl.getD i (0, 0)).2 = -1 then dropGo a r f i ((cl.set i (putZ (cl.getD i (0, 0)).1 a false, (cl.getD i (0, 0)).2)).eraseIdx i) (cutG gl cl.length i r)
    else dropGo a r f (i + 1) (cl.set i (putZ (cl.getD i (0, 0)).1 a false, (cl.getD i (0, 0)).2)) gl
def dropZ (a r : Int) (cl : List (Int × Int)) (gl : List Int) : List (Int × Int) × List Int :=
  if gl.length = cl.length - 1 then dropGo a r cl.length 0 cl gl else (cl, gl)

theorem cutG_len (gl : List Int) (n i : Nat) (r : Int) (h : gl.length = n - 1) (hi : i < n) : (cutG gl n i r).length = n - 1 - 1 := by
  unfold cutG
  split
  · omega
  · split
    · rw [List.length_eraseIdx_of_lt (by omega)]; omega
    · split
      · rw [List.length_eraseIdx_of_lt (by omega)]; omega
      · rw [List.length_eraseIdx_of_lt (by rw [List.length_set]; omega), List.length_set]; omega

theorem cellsP_set1 (l : List (Int × Int)) (k : Nat) (x y z : Int) (h : l[k]? = some (x, y)) : cellsP (l.set k (z, y)) = (cellsP l).set (k * 2) (.int .i64 z) := by
  rw [cellsP_set]
  have h2 := (cellsP_get _ _ _ h).2
  refine List.ext_getElem? fun j => ?_
  by_cases hj : k * 2 + 1 = j
  · subst hj
    have hlt : k * 2 + 1 < (cellsP l).length := (List.getElem?_eq_some_iff.1 h2).1
    rw [List.getElem?_set_self (by rw [List.length_set]; exact hlt), List.getElem?_set_ne (by omega), h2]
  · rw [List.getElem?_set_ne hj]

/-- where the loop of Drop stands -/
structure DropAt (w : World) (B7 : Nat) (R : List (Int × Int) × List Int) (a r : Int) (i n : Nat) (cl : List (Int × Int)) (gl : List Int) (g1 cap1 g2 cap2 : Nat) (W : World) : Prop where
  box : Box2 W B7 (.slice (some ⟨g1, 0, none⟩) n cap1) (.slice (some ⟨g2, 0, none⟩) (n - 1) cap2)
  res : Box2 W (w.heap.size + 1) (.slice none 0 0) (.slice none 0 0)
  zone : ZoneAt W (w.heap.size + 2) (.slice (some ⟨g1, 0, none⟩) n cap1) (.slice (some ⟨g2, 0, none⟩) (n - 1) cap2) cl gl
  low : Below w.heap.size w W
  len : cl.length = n
  gap : gl.length = n - 1
  go : dropGo a r (n - i) i cl gl = R
  ib : w.heap.size + 2 ≤ B7

def boxLen (W : World) (B : Nat) : Nat := match W.cell? ⟨B, 0, none⟩ with
  | some (.slice _ n _) => n
  | _ => 0
theorem Box2.len {W : World} {B n cap : Nat} {ad : Option Addr} {b : Value} (h : Box2 W B (.slice ad n cap) b) : boxLen W B = n := by
  unfold boxLen; rw [h.c0]

theorem ZoneAt.mono {w : World} {base base' : Nat} {v1 v2 : Value} {cl : List (Int × Int)} {gl : List Int} (h : ZoneAt w base v1 v2 cl gl) (hb : base' ≤ base) : ZoneAt w base' v1 v2 cl gl := by
  have H : ∀ {e : TypeId} {sz n : Nat} {v : Value} {xs : List Value}, w.ownsRow base e sz v n xs → w.ownsRow base' e sz v n xs := by
    intro e sz n v xs h
    refine ⟨h.1, ?_⟩
    rcases h.2 with h0 | ⟨g, cap, cur, e1, e2, e3⟩
    · exact .inl h0
    · exact .inr ⟨g, cap, cur, e1, Nat.le_trans hb e2, e3⟩
  exact ⟨H h.1, H h.2⟩

set_option maxRecDepth 100000 in
set_option maxHeartbeats 4000000 in
theorem drop_any (base : Nat) (v1 v2 : Value) (cl0 : List (Int × Int)) (gl0 : List Int) (a r : Int) (w : World) (hz : ZoneAt w base v1 v2 cl0 gl0) (hcl : cl0.length ≤ 65536) (hgl : gl0.length ≤ 65536) :
    Calls Tryz.prog 21 #[.agg #[v1, v2], .int .i64 a, .int .i64 r] w fun e w' => ∃ g1 cap1 g2 cap2, e = .returned (.agg #[.slice (some ⟨g1, 0, none⟩) (dropZ a r cl0 gl0).1.length cap1, .slice (some ⟨g2, 0, none⟩) (dropZ a r cl0 gl0).2.length cap2]) ∧
      ZoneAt w' w.heap.size (.slice (some ⟨g1, 0, none⟩) (dropZ a r cl0 gl0).1.length cap1) (.slice (some ⟨g2, 0, none⟩) (dropZ a r cl0 gl0).2.length cap2) (dropZ a r cl0 gl0).1 (dropZ a r cl0 gl0).2 ∧ Below w.heap.size w w' := by
  have x1 := (Box2.new w v1 v2).alloc (.cells #[.slice none 0 0, .slice none 0 0] 28)
  have x2 := Box2.new (w.alloc (.cells #[v1, v2] 28)) (.slice none 0 0) (.slice none 0 0)
  simp only [World.size_alloc] at x2
  have hb0 : Below w.heap.size w ((w.alloc (.cells #[v1, v2] 28)).alloc (.cells #[.slice none 0 0, .slice none 0 0] 28)) := ((Below.refl _ w).alloc (Nat.le_refl _) _).alloc (by simp) _
  have z0 : ZoneAt ((w.alloc (.cells #[v1, v2] 28)).alloc (.cells #[.slice none 0 0, .slice none 0 0] 28)) base v1 v2 cl0 gl0 := hz.below hb0
  have hs0 : ((w.alloc (.cells #[v1, v2] 28)).alloc (.cells #[.slice none 0 0, .slice none 0 0] 28)).heap.size = w.heap.size + 2 := by simp
  have hown := Lib.hid (dropOwn_any base v1 v2 cl0 gl0 _ z0 hcl hgl)
  obtain ⟨N, hN⟩ : ∃ N, cl0.length = N := ⟨_, rfl⟩
  obtain ⟨M, hM⟩ : ∃ M, gl0.length = M := ⟨_, rfl⟩
  rw [hN] at hcl; rw [hM] at hgl
  have X1 := Lib.hid x1; have X2 := Lib.hid x2; have HB0 := Lib.hid hb0; have Z0 := Lib.hid z0; have HS0 := Lib.hid hs0
  have HN := Lib.hid hN; have HM := Lib.hid hM
  clear x1 x2 hb0 z0 hs0 hN hM
  go_enter Tryz.func21, Tryz.ntmps21
  go_wp2_with fail
  refine hown.out.mono ?_
  rintro e W2 ⟨g1, g2, rfl, zo, hb⟩
  rw [HN.out, HM.out] at zo ⊢
  have hsz2 := hb.size
  rw [HS0.out] at hsz2 zo
  have y1 := (X1.out.kept (row := none) ⟨hb.os, hb.tape, hb.output, hb.size, fun k hk _ => hb.block k hk⟩ (by simp)).alloc (.cells #[.slice (some ⟨g1, 0, none⟩) N N, .slice (some ⟨g2, 0, none⟩) M M] 28)
  have y2 := (X2.out.kept (row := none) ⟨hb.os, hb.tape, hb.output, hb.size, fun k hk _ => hb.block k hk⟩ (by simp)).alloc (.cells #[.slice (some ⟨g1, 0, none⟩) N N, .slice (some ⟨g2, 0, none⟩) M M] 28)
  have y7 := Box2.new W2 (.slice (some ⟨g1, 0, none⟩) N N) (.slice (some ⟨g2, 0, none⟩) M M)
  have c0 := y1.c0; have c1 := y1.c1
  have hb2 : Below w.heap.size w (W2.alloc (.cells #[.slice (some ⟨g1, 0, none⟩) N N, .slice (some ⟨g2, 0, none⟩) M M] 28)) := (HB0.out.trans (hb.mono HB0.out.size)).alloc (by omega) _
  have z2 : ZoneAt (W2.alloc (.cells #[.slice (some ⟨g1, 0, none⟩) N N, .slice (some ⟨g2, 0, none⟩) M M] 28)) base v1 v2 cl0 gl0 := (Z0.out.below hb).below ((Below.refl _ W2).alloc (Nat.le_refl _) _)
  have zo2 : ZoneAt (W2.alloc (.cells #[.slice (some ⟨g1, 0, none⟩) N N, .slice (some ⟨g2, 0, none⟩) M M] 28)) (w.heap.size + 2) (.slice (some ⟨g1, 0, none⟩) N N) (.slice (some ⟨g2, 0, none⟩) M M) cl0 gl0 := zo.below ((Below.refl _ W2).alloc (Nat.le_refl _) _)
  have hfm := Lib.hid (formed_any base v1 v2 cl0 gl0 _ z2 (by rw [HN.out]; exact hcl))
  have Y2 := Lib.hid y2; have Y7 := Lib.hid y7; have HB2 := Lib.hid hb2; have ZO := Lib.hid zo2
  clear hb y1 y2 y7 hb2 z2 zo zo2 X1 X2 HB0 Z0 hown
  go_wp2_with fail
  refine hfm.out.mono ?_
  rintro e W3 ⟨rfl, hb⟩
  rw [HN.out, HM.out]
  have u2 := Y2.out.kept (row := none) ⟨hb.os, hb.tape, hb.output, hb.size, fun k hk _ => hb.block k hk⟩ (by simp)
  have u7 := Y7.out.kept (row := none) ⟨hb.os, hb.tape, hb.output, hb.size, fun k hk _ => hb.block k hk⟩ (by simp)
  have HB3 := Lib.hid (HB2.out.trans (hb.mono HB2.out.size))
  have ZO3 := Lib.hid (ZO.out.below hb)
  have e0 := u7.c0; have e1 := u7.c1
  have e2 := u2.z0 0; have e3 := u2.z0 1; have e4 := u2.c0; have e5 := u2.c1
  have U2 := Lib.hid u2; have U7 := Lib.hid u7
  clear hb u2 u7 Y2 Y7 HB2 ZO c0 c1 hfm
  by_cases hform : M = N - 1
  · have hd : decide (M = N - 1) = true := by simp [hform]
    have HD : Hid (dropGo a r N 0 cl0 gl0 = dropZ a r cl0 gl0) := by unfold Hid dropZ; rw [HN.out, HM.out, if_pos hform]
    have HF := Lib.hid hform
    clear hform
    obtain rfl : M = N - 1 := HF.out
    go_wp2
    go_loopw [8, 9] (fun i _ wr => ∃ (k n g1 cap1 g2 cap2 : Nat) (cl : List (Int × Int)) (gl : List Int), i = .int .i64 k ∧ k ≤ n ∧ n ≤ 65536 ∧ Hid (DropAt w W2.heap.size (dropZ a r cl0 gl0) a r k n cl gl g1 cap1 g2 cap2 wr)) (fun i _ wr => boxLen wr W2.heap.size - (intOf i).toNat)
    case atStart => exact ⟨0, N, g1, N, g2, N - 1, cl0, gl0, rfl, Nat.zero_le _, hcl, ⟨U7.out, U2.out, ZO3.out, HB3.out, HN.out, HM.out, HD.out, hsz2⟩⟩
    case round =>
      clear U2 U7 ZO3 HB3 e0 e1 e2 e3 e4 e5 hd
      obtain ⟨k, n, G1, cap1, G2, cap2, cl, gl, rfl, hk, hn, HA⟩ := hrel
      have c0 := HA.out.box.c0
      have hbl := Lib.hid HA.out.box.len
      by_cases hlt : k < n
      · obtain ⟨x, y, hxy⟩ : ∃ x y, cl.getD k (0, 0) = (x, y) := ⟨_, _, rfl⟩
        have hz1 := HA.out.zone.1
        rw [HA.out.len] at hz1
        have hln := HA.out.len
        have hx : cl[k]? = some (x, y) := by rw [← hxy, List.getD_eq_getElem?_getD, List.getElem?_eq_getElem (by omega)]; rfl
        have cx := cellsP_get _ _ _ hx
        have k1 : wr.cell? ⟨G1, k * 2, none⟩ = some (.int .i64 x) := by rw [hz1.cellAt _ (by omega)]; exact cx.1
        have k2 : wr.cell? ⟨G1, k * 2 + 1, none⟩ = some (.int .i64 y) := by rw [hz1.cellAt _ (by omega)]; exact cx.2
        have HX := Lib.hid hxy; have HL := Lib.hid hln
        clear hz1 hln hxy hx cx
        cases hh : hasB x a
        · have HH := Lib.hid hh
          have HG : Hid (DropAt w W2.heap.size (dropZ a r cl0 gl0) a r (k + 1) n cl gl G1 cap1 G2 cap2 wr) := by
            obtain ⟨h1, h2, h3, h4, h5, h6, h7, h8⟩ := HA.out
            refine ⟨h1, h2, h3, h4, h5, h6, ?_, h8⟩
            rw [show n - k = (n - (k + 1)) + 1 by omega, dropGo, HX.out, if_pos hh] at h7
            exact h7
          clear hh
          go_wp2_with (go_at_call 52; refine (has_any _ _ _).mono ?_; rintro e w' ⟨rfl, rfl⟩; rw [HH.out])
          go_roundw
          case rel => exact ⟨k + 1, n, G1, cap1, G2, cap2, cl, gl, by go_num, by omega, hn, HG⟩
          case measure => rw [hbl.out]; simp [intOf]; omega
        · have HH := Lib.hid hh
          obtain ⟨z, hz⟩ : ∃ z, putZ x a false = z := ⟨_, rfl⟩
          have HZ := Lib.hid hz
          have Z1 := HA.out.zone.1
          have Z2 := HA.out.zone.2
          rw [HL.out] at Z1; rw [HA.out.gap] at Z2
          obtain ⟨cur1, q1, b1⟩ := owns_row Z1
          obtain ⟨cur2, q2, b2⟩ := owns_row Z2
          have hG12 : G1 ≠ G2 := fun e => by subst e; rw [q1] at q2; cases q2
          have hB1 : W2.heap.size ≠ G1 := fun e => by have := HA.out.box; unfold Box2 at this; rw [e, q1] at this; cases this
          have hB2 : W2.heap.size ≠ G2 := fun e => by have := HA.out.box; unfold Box2 at this; rw [e, q2] at this; cases this
          have f1 : wr.frozen? ⟨G1, k * 2, none⟩ = false := owns_frozen Z1 (k * 2)
          have hlen2 : (cl.set k (z, y)).length = n := by rw [List.length_set]; exact HL.out
          have HAS : Hid (Box2 (wr.setCell ⟨G1, k * 2, none⟩ (.int .i64 z)) W2.heap.size (.slice (some ⟨G1, 0, none⟩) n cap1) (.slice (some ⟨G2, 0, none⟩) (n - 1) cap2) ∧ Box2 (wr.setCell ⟨G1, k * 2, none⟩ (.int .i64 z)) (w.heap.size + 1) (.slice none 0 0) (.slice none 0 0) ∧
              ZoneAt (wr.setCell ⟨G1, k * 2, none⟩ (.int .i64 z)) (w.heap.size + 2) (.slice (some ⟨G1, 0, none⟩) n cap1) (.slice (some ⟨G2, 0, none⟩) (n - 1) cap2) (cl.set k (z, y)) gl ∧ Below w.heap.size w (wr.setCell ⟨G1, k * 2, none⟩ (.int .i64 z))) := by
            have hx : cl[k]? = some (x, y) := by rw [← HX.out, List.getD_eq_getElem?_getD, List.getElem?_eq_getElem (by rw [HL.out]; exact hlt)]; rfl
            refine ⟨HA.out.box.other _ hB1 _, HA.out.res.other _ (by simp; omega) _, ⟨?_, ownsRow_setCell_other HA.out.zone.2 (by simp [Value.ownBlock]; omega) _⟩, HA.out.low.setCell (p := ⟨G1, k * 2, none⟩) (by simp; omega) _⟩
            rw [hlen2, cellsP_set1 _ _ _ _ _ hx]
            exact owns_set Z1 _ _
          have hlow := HA.out.low.size
          have HGP := Lib.hid HA.out.gap
          have HGO : Hid ((if z = 0 ∧ y = -1 then dropGo a r (n - k - 1) k ((cl.set k (z, y)).eraseIdx k) (cutG gl n k r) else dropGo a r (n - k - 1) (k + 1) (cl.set k (z, y)) gl) = dropZ a r cl0 gl0) := by
            have h7 := HA.out.go
            rw [show n - k = (n - k - 1) + 1 by omega, dropGo, HX.out] at h7
            simp only [hh, Bool.true_eq_false, if_false] at h7
            rw [hz, HL.out] at h7
            exact h7
          have c2 := HA.out.box.c1
          have d0 := HAS.out.1.c0; have d1 := HAS.out.1.c1; have d2 := HAS.out.1.z0 0; have d3 := HAS.out.1.z0 1
          have d4 : (wr.setCell ⟨G1, k * 2, none⟩ (.int .i64 z)).cell? ⟨G1, k * 2, none⟩ = some (.int .i64 z) := by go_simp
          have d5 : (wr.setCell ⟨G1, k * 2, none⟩ (.int .i64 z)).cell? ⟨G1, k * 2 + 1, none⟩ = some (.int .i64 y) := by go_simp
          have hIB := HA.out.ib
          clear hh hz q1 q2 Z1 Z2
          by_cases hz0 : z = 0
          · by_cases hy0 : y = -1
            · have p1 : (z == 0) = true := by simp [hz0]
              have p2 : (y == -1) = true := by simp [hy0]
              have HC := Lib.hid (cut_run (w.heap.size + 2) G1 G2 n (n - 1) cap1 cap2 k (cl.set k (z, y)) gl r _ HAS.out.2.2.1 hlen2 HGP.out hn rfl hlt)
              have HGN : Hid (dropGo a r (n - 1 - k) k ((cl.set k (z, y)).eraseIdx k) (cutG gl n k r) = dropZ a r cl0 gl0) := by
                have := HGO.out
                rw [if_pos ⟨hz0, hy0⟩, show n - k - 1 = n - 1 - k by omega] at this
                exact this
              have HL2 : Hid (((cl.set k (z, y)).eraseIdx k).length = n - 1) := by unfold Hid; rw [List.length_eraseIdx_of_lt (by omega)]; omega
              have HL3 := Lib.hid (cutG_len gl n k r HGP.out hlt)
              clear hz0 hy0
              go_wp2_with first
                | (go_at_call 52; refine (has_any _ _ _).mono ?_; rintro e w' ⟨rfl, rfl⟩; rw [HH.out])
                | (go_at_call 53; refine (without_any _ _ _).mono ?_; rintro e w' ⟨rfl, rfl⟩; rw [HZ.out])
              refine HC.out.mono ?_
              rintro e W5 ⟨_, _, rfl, rfl, rfl, z5, k5⟩
              have t1 := HAS.out.1.two k5 hB1 hB2
              have t2 := HAS.out.2.1.two k5 (by omega) (by omega)
              have d6 := t1.c0; have d7 := t1.c1; have d8 := t1.z0 0; have d9 := t1.z0 1
              have hl5 := t1.lt
              have hsw : w.heap.size ≤ (wr.setCell ⟨G1, k * 2, none⟩ (.int .i64 z)).heap.size := HAS.out.2.2.2.size
              have t3 := HAS.out.2.2.2.trans (k5.below (base := w.heap.size) (by omega) (by omega) hsw)
              have HG : Hid (DropAt w W2.heap.size (dropZ a r cl0 gl0) a r k (n - 1) ((cl.set k (z, y)).eraseIdx k) (cutG gl n k r) G1 cap1 G2 cap2 ((W5.setCell ⟨W2.heap.size, 0, none⟩ (.slice (some ⟨G1, 0, none⟩) (n - 1) cap1)).setCell ⟨W2.heap.size, 1, none⟩ (.slice (some ⟨G2, 0, none⟩) (n - 1 - 1) cap2))) :=
                ⟨(t1.s0 _).s1 _, (t2.other _ (by simp; omega) _).other _ (by simp; omega) _, ⟨ownsRow_setCell_other (ownsRow_setCell_other z5.1 (t1.row z5.1 (by decide)) _) (t1.row z5.1 (by decide)) _, ownsRow_setCell_other (ownsRow_setCell_other z5.2 (t1.row z5.2 (by decide)) _) (t1.row z5.2 (by decide)) _⟩,
                  (t3.setCell (p := ⟨W2.heap.size, 0, none⟩) (by simp; omega) _).setCell (p := ⟨W2.heap.size, 1, none⟩) (by simp; omega) _, HL2.out, HL3.out, HGN.out, hIB⟩
              have hbl2 := Lib.hid HG.out.box.len
              clear t1 t2 t3 z5 k5 hsw HC
              go_wp2
              go_roundw
              case rel => exact ⟨k, n - 1, G1, cap1, G2, cap2, _, _, rfl, by omega, by omega, HG⟩
              case measure => rw [hbl.out, hbl2.out]; simp [intOf]; omega
            · have p1 : (z == 0) = true := by simp [hz0]
              have p2 : (y == -1) = false := by simp [hy0]
              have HG : Hid (DropAt w W2.heap.size (dropZ a r cl0 gl0) a r (k + 1) n (cl.set k (z, y)) gl G1 cap1 G2 cap2 (wr.setCell ⟨G1, k * 2, none⟩ (.int .i64 z))) := by
                refine ⟨HAS.out.1, HAS.out.2.1, HAS.out.2.2.1, HAS.out.2.2.2, hlen2, HGP.out, ?_, hIB⟩
                have := HGO.out
                rw [if_neg (by simp [hy0])] at this
                exact this
              have hbl2 := Lib.hid HAS.out.1.len
              clear hz0 hy0
              go_wp2_with first
                | (go_at_call 52; refine (has_any _ _ _).mono ?_; rintro e w' ⟨rfl, rfl⟩; rw [HH.out])
                | (go_at_call 53; refine (without_any _ _ _).mono ?_; rintro e w' ⟨rfl, rfl⟩; rw [HZ.out])
              go_roundw
              case rel => exact ⟨k + 1, n, G1, cap1, G2, cap2, cl.set k (z, y), gl, by go_num, by omega, hn, HG⟩
              case measure => rw [hbl.out, hbl2.out]; simp [intOf]; omega
          · have p1 : (z == 0) = false := by simp [hz0]
            have HG : Hid (DropAt w W2.heap.size (dropZ a r cl0 gl0) a r (k + 1) n (cl.set k (z, y)) gl G1 cap1 G2 cap2 (wr.setCell ⟨G1, k * 2, none⟩ (.int .i64 z))) := by
              refine ⟨HAS.out.1, HAS.out.2.1, HAS.out.2.2.1, HAS.out.2.2.2, hlen2, HGP.out, ?_, hIB⟩
              have := HGO.out
              rw [if_neg (by simp [hz0])] at this
              exact this
            have hbl2 := Lib.hid HAS.out.1.len
            clear hz0
            go_wp2_with first
              | (go_at_call 52; refine (has_any _ _ _).mono ?_; rintro e w' ⟨rfl, rfl⟩; rw [HH.out])
              | (go_at_call 53; refine (without_any _ _ _).mono ?_; rintro e w' ⟨rfl, rfl⟩; rw [HZ.out])
            go_roundw
            case rel => exact ⟨k + 1, n, G1, cap1, G2, cap2, cl.set k (z, y), gl, by go_num, by omega, hn, HG⟩
            case measure => rw [hbl.out, hbl2.out]; simp [intOf]; omega
      · obtain rfl : k = n := by omega
        have HR : Hid (dropZ a r cl0 gl0 = (cl, gl)) := by
          have := HA.out.go
          rw [Nat.sub_self, dropGo] at this
          exact this.symm
        have c2 := HA.out.box.c1
        have c3 := HA.out.res.c0; have c4 := HA.out.res.c1; have c5 := HA.out.res.z0 0; have c6 := HA.out.res.z0 1
        have c7 := HA.out.res.lt
        have HL := Lib.hid HA.out.len; have HGP := Lib.hid HA.out.gap
        go_wp2
        have v1 := (HA.out.res.s0 (.slice (some ⟨G1, 0, none⟩) k cap1)).s1 (.slice (some ⟨G2, 0, none⟩) (k - 1) cap2)
        have e6 := v1.c0; have e7 := v1.c1
        refine bodyPost_ret (v := .agg #[.slice (some ⟨G1, 0, none⟩) k cap1, .slice (some ⟨G2, 0, none⟩) (k - 1) cap2]) (by simp [results, Tryz.results21, go_sem, e6, e7]) rfl ?_
        rw [HR.out]
        dsimp only
        rw [HL.out, HGP.out]
        refine ⟨_, _, _, _, rfl, ZoneAt.mono ⟨?_, ?_⟩ (by omega : w.heap.size ≤ w.heap.size + 2), (HA.out.low.setCell (p := ⟨w.heap.size + 1, 0, none⟩) (by simp) _).setCell (p := ⟨w.heap.size + 1, 1, none⟩) (by simp) _⟩
        · exact ownsRow_setCell_other (ownsRow_setCell_other HA.out.zone.1 (HA.out.res.row HA.out.zone.1 (by decide)) _) (HA.out.res.row HA.out.zone.1 (by decide)) _
        · exact ownsRow_setCell_other (ownsRow_setCell_other HA.out.zone.2 (HA.out.res.row HA.out.zone.2 (by decide)) _) (HA.out.res.row HA.out.zone.2 (by decide)) _
  · have hd : decide (M = N - 1) = false := by simp [hform]
    have HD : Hid (dropZ a r cl0 gl0 = (cl0, gl0)) := by unfold Hid dropZ; rw [HN.out, HM.out, if_neg hform]
    clear hform
    go_wp2
    have v1 := (U2.out.s0 (.slice (some ⟨g1, 0, none⟩) N N)).s1 (.slice (some ⟨g2, 0, none⟩) M M)
    have e6 := v1.c0; have e7 := v1.c1
    refine bodyPost_ret (v := .agg #[.slice (some ⟨g1, 0, none⟩) N N, .slice (some ⟨g2, 0, none⟩) M M]) (by simp [results, Tryz.results21, go_sem, e6, e7]) rfl ?_
    rw [HD.out]
    dsimp only
    rw [HN.out, HM.out]
    refine ⟨_, _, _, _, rfl, ZoneAt.mono ⟨?_, ?_⟩ (by omega : w.heap.size ≤ w.heap.size + 2), (HB3.out.setCell (p := ⟨w.heap.size + 1, 0, none⟩) (by simp) _).setCell (p := ⟨w.heap.size + 1, 1, none⟩) (by simp) _⟩
    · exact ownsRow_setCell_other (ownsRow_setCell_other ZO3.out.1 (U2.out.row ZO3.out.1 (by decide)) _) (U2.out.row ZO3.out.1 (by decide)) _
    · exact ownsRow_setCell_other (ownsRow_setCell_other ZO3.out.2 (U2.out.row ZO3.out.2 (by decide)) _) (U2.out.row ZO3.out.2 (by decide)) _

end Go.Proofs.YtkkoooagamadjaaGreatDoor

namespace Go.Proofs.YtkkoooagamadjaaGreatDoor
open Go.RowKit

theorem Reads.len {w : World} {v : Value} {xs : List Value} (h : Reads w v xs) : ∃ ad cap, v = .slice ad xs.length cap ∧ xs.length ≤ maxLen := by
  rcases h with ⟨ad, cap, rfl, rfl⟩ | ⟨b, off, cap, rfl, _, hm, _⟩
  · exact ⟨ad, cap, rfl, Nat.zero_le _⟩
  · exact ⟨_, cap, rfl, hm⟩
theorem Reads.at {w : World} {ad : Option Addr} {n cap : Nat} {xs : List Value} (h : Reads w (.slice ad n cap) xs) (hn : 0 < n) : ∃ b off, ad = some ⟨b, off, none⟩ ∧ ∀ t x, xs[t]? = some x → w.cell? ⟨b, off + t, none⟩ = some x := by
  rcases h with ⟨ad', cap', e, _⟩ | ⟨b, off, cap', e, _, _, hc⟩
  · cases e; omega
  · cases e; exact ⟨b, off, rfl, hc⟩

/-- one step of Sorted's inner loop -/
def stepS (x : Int) (s : List Int × Bool) (o : Int) : List Int × Bool :=
  (if o = x then (if s.2 = false ∧ x ≤ o then s.1 ++ [x] else s.1) else (if s.2 = false ∧ x ≤ o then s.1 ++ [x] else s.1) ++ [o], s.2 || decide (x ≤ o))
def innS (x : Int) (l : List Int) : List Int × Bool := l.foldl (stepS x) ([], false)
def insS (x : Int) (l : List Int) : List Int := if (innS x l).2 then (innS x l).1 else (innS x l).1 ++ [x]
def sortS (l : List Int) : List Int := l.foldl (fun out x => insS x out) []

theorem innS_succ (x : Int) (l : List Int) (k : Nat) (o : Int) (h : l[k]? = some o) : innS x (l.take (k + 1)) = stepS x (innS x (l.take k)) o := by
  obtain ⟨hk, rfl⟩ := List.getElem?_eq_some_iff.1 h
  rw [List.take_succ_eq_append_getElem hk, innS, List.foldl_append]; rfl
theorem sortS_succ (l : List Int) (k : Nat) (x : Int) (h : l[k]? = some x) : sortS (l.take (k + 1)) = insS x (sortS (l.take k)) := by
  obtain ⟨hk, rfl⟩ := List.getElem?_eq_some_iff.1 h
  rw [List.take_succ_eq_append_getElem hk, sortS, List.foldl_append]; rfl
theorem stepS_len (x : Int) (s : List Int × Bool) (o : Int) : (stepS x s o).1.length + s.2.toNat ≤ s.1.length + 1 + (stepS x s o).2.toNat := by
  unfold stepS
  cases hs : s.2 <;> by_cases h : x ≤ o <;> by_cases h2 : o = x <;> simp [h, h2]
theorem innS_len (x : Int) (l : List Int) : (innS x l).1.length ≤ l.length + (innS x l).2.toNat := by
  have H : ∀ (l : List Int) (s : List Int × Bool), (l.foldl (stepS x) s).1.length + s.2.toNat ≤ s.1.length + l.length + (l.foldl (stepS x) s).2.toNat := by
    intro l
    induction l with
    | nil => intro s; simp
    | cons o l ih =>
      intro s
      have h1 := ih (stepS x s o)
      have h2 := stepS_len x s o
      simp only [List.foldl_cons, List.length_cons]
      omega
  have h := H l ([], false)
  simpa [innS] using h
theorem insS_len (x : Int) (l : List Int) : (insS x l).length ≤ l.length + 1 := by
  have := innS_len x l
  unfold insS
  split <;> rename_i h
  · rw [h] at this; exact this
  · simp [h] at this; simp; omega
theorem sortS_len (l : List Int) : (sortS l).length ≤ l.length := by
  have H : ∀ (l acc : List Int), (l.foldl (fun out x => insS x out) acc).length ≤ acc.length + l.length := by
    intro l
    induction l with
    | nil => intro acc; simp
    | cons x l ih =>
      intro acc
      have h1 := ih (insS x acc)
      have h2 := insS_len x acc
      simp only [List.foldl_cons, List.length_cons]; omega
  simpa [sortS] using H l []

/-- steps from a number to another, so many at most -/
def gapZ (a b many : Int) : Int := max 0 (min many (b - a - 1))

set_option maxHeartbeats 1000000 in
theorem rgap_any (a b : Int) (m : Nat) (w : World) (ha : -9223372036854775808 ≤ a) (hb : b ≤ 9223372036854775807) (hm : m ≤ 2097151) :
    Calls Tryz.prog 32 #[.int .i64 a, .int .i64 b, .int .i64 m] w fun e w' => e = .returned (.int .i64 (gapZ a b m)) ∧ w = w' := by
  go_enter Tryz.func32, Tryz.ntmps32
  go_wp2
  go_loop [0, 7] (fun x n => ∃ k : Nat, x = .int .i64 (a + k) ∧ n = .int .i64 k ∧ k ≤ m ∧ (k = 0 ∨ a + k < b)) (fun _ n => m - (intOf n).toNat)
  case atStart => exact ⟨0, by simp, rfl, Nat.zero_le _, .inl rfl⟩
  case round =>
    obtain ⟨k, rfl, rfl, hk, hkb⟩ := hrel
    by_cases h1 : k < m
    · by_cases h2 : a + k < b
      · by_cases h3 : a + k + 1 < b
        · have p1 : (k : Int) < (m : Int) := by omega
          go_wp2
          go_round
          case rel => exact ⟨k + 1, by go_num, by go_num, by omega, .inr (by omega)⟩
          case measure => simp [intOf]; omega
        · have p1 : (k : Int) < (m : Int) := by omega
          have H : Hid (gapZ a b m = k) := by unfold Hid gapZ; omega
          go_wp2
          go_ret
          exact ⟨ret_int H.out.symm, rfl⟩
      · have p1 : (k : Int) < (m : Int) := by omega
        have H : Hid (gapZ a b m = k) := by unfold Hid gapZ; omega
        go_wp2
        go_ret
        exact ⟨ret_int H.out.symm, rfl⟩
    · have p1 : ¬ (k : Int) < (m : Int) := by omega
      have H : Hid (gapZ a b m = k) := by unfold Hid gapZ; omega
      go_wp2
      go_ret
      exact ⟨ret_int H.out.symm, rfl⟩

end Go.Proofs.YtkkoooagamadjaaGreatDoor
