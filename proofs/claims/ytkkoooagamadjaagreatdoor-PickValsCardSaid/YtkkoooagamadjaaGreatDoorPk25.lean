/- Of of warderref22: the zone of numbers. Some of warderref23: the zone of the numbers of some attributes (printed by gen_zone2.py out of XZone1). The laws of chapter 23: awake, DropLeaves, DropOrder. -/
import Derived.Test.YtkkoooagamadjaaGreatDoorPk23
import Derived.Test.YtkkoooagamadjaaGreatDoorPk13
import Derived.Deep.AppendLies
import Derived.Deep.RegionHeld3
import Derived.StillTailTactics
import Derived.Deep.DeepCutAuto
import Derived.Test.YtkkoooagamadjaaGreatDoorPk22

namespace Go.Proofs.YtkkoooagamadjaaGreatDoor
open Go.RowKit

/-- a class in a block of its own -/
def BoxC (W : World) (B : Nat) (a b : Value) : Prop := W.heap[B]? = some (.cells #[a, b] 47 (0, 0))
theorem BoxC.lt {W : World} {B : Nat} {a b : Value} (h : BoxC W B a b) : B < W.heap.size := (Array.getElem?_eq_some_iff.1 h).1
theorem BoxC.c0 {W : World} {B : Nat} {a b : Value} (h : BoxC W B a b) : W.cell? ⟨B, 0, none⟩ = some a := by simp [World.cell?, show W.heap[B]? = _ from h]
theorem BoxC.c1 {W : World} {B : Nat} {a b : Value} (h : BoxC W B a b) : W.cell? ⟨B, 1, none⟩ = some b := by simp [World.cell?, show W.heap[B]? = _ from h]
theorem BoxC.z0 {W : World} {B : Nat} {a b : Value} (h : BoxC W B a b) (j : Nat) : W.frozen? ⟨B, j, none⟩ = false := by simp [World.frozen?, show W.heap[B]? = _ from h]
theorem BoxC.new (W : World) (a b : Value) : BoxC (W.alloc (.cells #[a, b] 47)) W.heap.size a b := World.alloc_heap_new W _
theorem BoxC.below {W W' : World} {B : Nat} {a b : Value} (h : BoxC W B a b) (hg : Below W.heap.size W W') : BoxC W' B a b := (hg.block B h.lt).trans h
theorem BoxC.s0 {W : World} {B : Nat} {a b : Value} (h : BoxC W B a b) (u : Value) : BoxC (W.setCell ⟨B, 0, none⟩ u) B u b := by
  obtain ⟨hlt, hk⟩ := Array.getElem?_eq_some_iff.1 h
  show (W.heap.modify B _)[B]? = _
  rw [Array.getElem?_eq_getElem (by rw [Array.size_modify]; exact hlt), Array.getElem_modify_self, hk]
  rfl
theorem BoxC.s1 {W : World} {B : Nat} {a b : Value} (h : BoxC W B a b) (u : Value) : BoxC (W.setCell ⟨B, 1, none⟩ u) B a u := by
  obtain ⟨hlt, hk⟩ := Array.getElem?_eq_some_iff.1 h
  show (W.heap.modify B _)[B]? = _
  rw [Array.getElem?_eq_getElem (by rw [Array.size_modify]; exact hlt), Array.getElem_modify_self, hk]
  rfl

/-- the load of the zone's gaps, under a name of its own -/
def ldGap : Op := Op.load 26 (Operand.tmp 70)
theorem ldGap_is : Op.load 26 (Operand.tmp 70) = ldGap := rfl
attribute [local go_sem] ldGap

/-- where a loop that builds a zone stands -/
structure ZB (w3 : World) (B9 : Nat) (cl : List (Int × Int)) (gl : List Int) (W : World) : Prop where
  ex : ∃ u1 u2, Box2 W B9 u1 u2 ∧ ZoneAt W w3.heap.size u1 u2 cl gl
  grown : w3.grownBy W (some B9)

/-- where a round stands when the gap is put -/
structure Z3 (w3 : World) (B9 B4 : Nat) (cl : List (Int × Int)) (gl : List Int) (A Q : Int) (W : World) : Prop where
  ex : ∃ u1 u2, Box2 W B9 u1 u2 ∧ ZoneAt W w3.heap.size u1 u2 cl gl
  cls : BoxC W B4 (.int .i64 A) (.int .i64 Q)
  grown : w3.grownBy W (some B9)

theorem Z3.still {w3 w4 W : World} {B9 B4 : Nat} {cl : List (Int × Int)} {gl : List Int} {A Q : Int} (h : ZB w3 B9 cl gl w4) (hb : Below w4.heap.size w4 W) (h9 : B9 < w4.heap.size) (hc : BoxC W B4 (.int .i64 A) (.int .i64 Q)) : Z3 w3 B9 B4 cl gl A Q W := by
  obtain ⟨u1, u2, bx, zo⟩ := h.ex
  exact ⟨⟨u1, u2, (hb.block _ h9).trans bx, zo.below hb⟩, hc, grown_then_below h.grown (hb.mono h.grown.size)⟩
theorem Z3.put {w3 w6 : World} {B9 B4 : Nat} {cl : List (Int × Int)} {gl gl' : List Int} {A Q : Int} {u1 u2 V : Value} {n : Nat} (bx : Box2 w6 B9 u1 u2) (og : w6.ownsRow w3.heap.size 3 1 V n (ints gl)) (hn : n = gl.length)
    (oc : w6.ownsRow w3.heap.size 47 2 u1 cl.length (cellsP cl)) (bc : BoxC w6 B4 (.int .i64 A) (.int .i64 Q)) (hne : B4 ≠ B9) (hg : w3.grownBy w6 (some B9)) (e : gl' = gl) : Z3 w3 B9 B4 cl gl' A Q (w6.setCell ⟨B9, 1, none⟩ V) := by
  subst hn; subst e
  refine ⟨⟨u1, V, bx.s1 V, ?_, ?_⟩, (Below.heap_setCell w6 ⟨B9, 1, none⟩ V B4 (by simpa using hne)).trans bc, ?_⟩
  · exact ownsRow_setCell_other oc (a := ⟨B9, 1, none⟩) (bx.row oc (by decide)) V
  · exact ownsRow_setCell_other og (a := ⟨B9, 1, none⟩) (bx.row og (by decide)) V
  · exact ⟨hg.os, hg.tape, hg.output, Nat.le_trans hg.size (by simp [World.setCell]), fun q hq hne => (Below.heap_setCell _ _ _ _ (by intro e; exact hne (by rw [e]))).trans (hg.block q hq hne)⟩
theorem ZB.put {w3 w8 : World} {B9 : Nat} {cl cl' : List (Int × Int)} {gl : List Int} {u1 u2 V : Value} {n : Nat} (bx : Box2 w8 B9 u1 u2) (oc : w8.ownsRow w3.heap.size 47 2 V n (cellsP cl)) (hn : n = cl.length)
    (og : w8.ownsRow w3.heap.size 3 1 u2 gl.length (ints gl)) (hg : w3.grownBy w8 (some B9)) (e : cl' = cl) : ZB w3 B9 cl' gl (w8.setCell ⟨B9, 0, none⟩ V) := by
  subst hn; subst e
  refine ⟨⟨V, u2, bx.s0 V, ?_, ?_⟩, ?_⟩
  · exact ownsRow_setCell_other oc (a := ⟨B9, 0, none⟩) (bx.row oc (by decide)) V
  · exact ownsRow_setCell_other og (a := ⟨B9, 0, none⟩) (bx.row og (by decide)) V
  · exact ⟨hg.os, hg.tape, hg.output, Nat.le_trans hg.size (by simp [World.setCell]), fun q hq hne => (Below.heap_setCell _ _ _ _ (by intro e; exact hne (by rw [e]))).trans (hg.block q hq hne)⟩

set_option maxRecDepth 100000 in
set_option maxHeartbeats 1200000 in
theorem rof_any (v1 v2 : Value) (l1 l2 : List Int) (r : Int) (w : World) (h1 : Reads w v1 (ints l1)) (h2 : Reads w v2 (ints l2)) (hl1 : l1.length ≤ 31) (hl2 : l2.length ≤ 31) (hi1 : ∀ x ∈ l1 ++ l2, -9223372036854775808 ≤ x ∧ x ≤ 9223372036854775807) :
    Calls Tryz.prog 12 #[v1, v2, .int .i64 r] w fun e w' => ∃ u1 u2, e = .returned (.agg #[u1, u2]) ∧ ZoneAt w' w.heap.size u1 u2 (zoneZ (fun x k => l1.getD k 0 == x) l1.length (sortS l2) (sortS (l1 ++ l2)) (kap r)).1 (zoneZ (fun x k => l1.getD k 0 == x) l1.length (sortS l2) (sortS (l1 ++ l2)) (kap r)).2 ∧ Below w.heap.size w w' := by
  obtain ⟨n, hn⟩ : ∃ n, l1.length = n := ⟨_, rfl⟩
  obtain ⟨C, hC⟩ : ∃ C, sortS l2 = C := ⟨_, rfl⟩
  obtain ⟨L, hL⟩ : ∃ L, sortS (l1 ++ l2) = L := ⟨_, rfl⟩
  rw [hC, hL]
  have HhC := Lib.hid hC; have HhL := Lib.hid hL
  clear hC hL
  obtain ⟨ad1, cap1, rfl, -⟩ := h1.len
  have hb0 : Below w.heap.size w (w.alloc (.cells #[.slice none 0 0, .slice none 0 0] 28)) := (Below.refl _ w).alloc (Nat.le_refl _) _
  have x6 := Box2.new w (.slice none 0 0) (.slice none 0 0)
  have r1 := h1.below (Nat.le_refl _) hb0
  have r2 := h2.below (Nat.le_refl _) hb0
  rw [ints_len, hn] at h1 r1 ⊢
  rw [hn] at hl1
  have HN := Lib.hid hn
  have H1 := Lib.hid r1; have H2 := Lib.hid r2
  have HB0 := Lib.hid hb0; have X6 := Lib.hid x6
  have hsz0 : (w.alloc (.cells #[.slice none 0 0, .slice none 0 0] 28)).heap.size = w.heap.size + 1 := by simp
  clear h1 h2 r1 r2 hb0 x6 hn
  go_enter Tryz.func12, Tryz.ntmps12
  go_wp2_with fail
  refine (rsorted_any v2 l2 _ H2.out (by omega)).mono ?_
  rintro e w1 ⟨vC, rfl, oC, b1⟩
  have HB1 := HB0.out.trans (b1.mono HB0.out.size)
  have R1 := H1.out.below (Nat.le_refl _) b1
  have RV2 := H2.out.below (Nat.le_refl _) b1
  have X61 : Box2 w1 w.heap.size _ _ := (b1.block _ X6.out.lt).trans X6.out
  rw [hsz0] at oC
  have HC := Lib.hid oC
  have hs1 := b1.size
  rw [hsz0] at hs1
  clear b1 oC
  go_wp2_with fail
  refine (rnumbers_any _ v2 l1 l2 _ R1 RV2 (by rw [HN.out]; omega) (by omega)).mono ?_
  rintro e w2 ⟨vL, rfl, oL, b2⟩
  have HB2 := HB1.trans (b2.mono HB1.size)
  have R12 := R1.below (Nat.le_refl _) b2
  have X62 : Box2 w2 w.heap.size _ _ := (b2.block _ X61.lt).trans X61
  have oC2 := owns_below HC.out b2
  have hs2 := b2.size
  have y9 := Box2.new w2 (.slice none 0 0) (.slice none 0 0)
  have hb3 := (Below.refl w2.heap.size w2).alloc (Nat.le_refl _) (.cells #[.slice none 0 0, .slice none 0 0] 28)
  have z6 := X62.alloc (.cells #[.slice none 0 0, .slice none 0 0] 28)
  have R2 := Lib.hid R12
  have OC := Lib.hid oC2
  have OL := Lib.hid (owns_mono oL (show w.heap.size + 1 ≤ w1.heap.size by omega))
  have H23 := Lib.hid hb3
  have HB3 := Lib.hid (HB2.alloc (by omega) (.cells #[.slice none 0 0, .slice none 0 0] 28))
  have Y9 := Lib.hid y9; have Z6 := Lib.hid z6
  have hs3 : (w2.alloc (.cells #[.slice none 0 0, .slice none 0 0] 28)).heap.size = w2.heap.size + 1 := by simp
  have hC := HhC.out; have hL := HhL.out
  have hlC : C.length ≤ 31 := by rw [← hC]; exact Nat.le_trans (sortS_len _) hl2
  have hlL : L.length ≤ 62 := by rw [← hL]; refine Nat.le_trans (sortS_len _) ?_; rw [List.length_append, HN.out]; omega
  unfold Hid at OC OL
  rw [hC] at OC
  rw [hL] at OL
  obtain ⟨nc, hnc⟩ : ∃ n, C.length = n := ⟨_, rfl⟩
  obtain ⟨nl, hnl⟩ : ∃ n, L.length = n := ⟨_, rfl⟩
  rw [hnc] at OC hlC
  rw [hnl] at OL hlL
  obtain ⟨adC, capC, rfl⟩ := owns_len OC
  obtain ⟨adL, capL, rfl⟩ := owns_len OL
  have OC := Lib.hid OC; have OL := Lib.hid OL
  have HNC := Lib.hid hnc; have HNL := Lib.hid hnl
  clear hnc hnl hC hL oL oC2 R12 R1 HB1 HB2 X61 X62 RV2 b2 y9 z6 hb3 H1 H2 HB0 X6 HC
  go_wp2
  obtain ⟨w3, hw3⟩ : ∃ w3, w2.alloc (.cells #[.slice none 0 0, .slice none 0 0] 28) = w3 := ⟨_, rfl⟩
  rw [hw3] at H23 HB3 Y9 Z6 hs3 ⊢
  clear hw3
  go_loopw [10, 11, 12, 13] (fun i _ _ _ wr => ∃ k : Nat, i = .int .i64 k ∧ k ≤ nl ∧ Hid (ZB w3 w2.heap.size ((L.take k).map (clsZ (fun x k => l1.getD k 0 == x) n C)) (gapsZ (kap r) (L.take k)) wr)) (fun i _ _ _ _ => nl - (intOf i).toNat)
  case atStart => exact ⟨0, rfl, Nat.zero_le _, ⟨⟨_, _, Y9.out, World.ownsRow_nil _ _ _ _, World.ownsRow_nil _ _ _ _⟩, ⟨rfl, rfl, rfl, Nat.le_refl _, fun _ _ _ => rfl⟩⟩⟩
  case round =>
    obtain ⟨k, rfl, hk, HA⟩ := hrel
    obtain ⟨w4, rfl⟩ : ∃ w1, w1 = wr := ⟨_, rfl⟩
    by_cases hlt : k < nl
    · have p1 : (k : Int) < (nl : Int) := by omega
      have H24 : Below w2.heap.size w2 w4 := H23.out.grown HA.out.grown (by omega) (fun k e => by cases e; exact Nat.le_refl _)
      have R4 := Lib.hid (R2.out.below (Nat.le_refl _) H24)
      have C4 := Lib.hid (Reads.of_owns (owns_below OC.out H24))
      have hkl : k < L.length := by rw [HNL.out]; exact hlt
      obtain ⟨x, hx⟩ : ∃ x, L[k]? = some x := ⟨_, List.getElem?_eq_getElem hkl⟩
      have hrL := Reads.of_owns (owns_below OL.out H24)
      obtain ⟨bL, oL, rfl, hcL⟩ := hrL.at (by omega)
      have kL : w4.cell? ⟨bL, oL + k, none⟩ = some (.int .i64 x) := hcL k _ (by simp [ints, hx])
      have hbL : bL < w4.heap.size := World.block_lt_of_cell? w4 _ kL
      have HX := Lib.hid hx
      have HCL := Lib.hid hcL
      clear hx hcL hrL H24
      go_wp2
      go_loopw [12] (fun kk wr => ∃ j : Nat, kk = .int .i64 j ∧ j ≤ n ∧ Hid (BoxC wr w4.heap.size (.int .i64 (attrZ (fun k => l1.getD k 0 == x) j)) (.int .i64 (-1)) ∧ Below w4.heap.size w4 wr)) (fun kk _ => n - (intOf kk).toNat)
      case atStart =>
        exact ⟨0, rfl, Nat.zero_le _, BoxC.new w4 _ _, (Below.refl _ w4).alloc (Nat.le_refl _) _⟩
      case round =>
        obtain ⟨j, rfl, hj, HI⟩ := hrel
        by_cases hjn : j < n
        · have p2 : (j : Int) < (n : Int) := by omega
          have q0 : (0 : Int) ≤ (j : Int) := by omega
          have q1 : (0 : Int) ≤ (k : Int) := by omega
          have hjl : j < l1.length := by rw [HN.out]; exact hjn
          obtain ⟨y, hy⟩ : ∃ y, l1[j]? = some y := ⟨_, List.getElem?_eq_getElem hjl⟩
          obtain ⟨b1, o1, rfl, hc1⟩ := R4.out.at (by omega)
          have kv : w4.cell? ⟨b1, o1 + j, none⟩ = some (.int .i64 y) := hc1 j _ (by simp [ints, hy])
          have hbv : b1 < w4.heap.size := World.block_lt_of_cell? w4 _ kv
          have k1 : wr.cell? ⟨b1, o1 + j, none⟩ = some (.int .i64 y) := (HI.out.2.cell (p := ⟨b1, o1 + j, none⟩) hbv).trans kv
          have k2 : wr.cell? ⟨bL, oL + k, none⟩ = some (.int .i64 x) := (HI.out.2.cell (p := ⟨bL, oL + k, none⟩) hbL).trans kL
          have hyd : l1.getD j 0 = y := by rw [List.getD_eq_getElem?_getD, hy]; rfl
          have HS : Hid (attrZ (fun k => l1.getD k 0 == x) (j + 1) = if (y == x) = true then putZ (attrZ (fun k => l1.getD k 0 == x) j) j true else attrZ (fun k => l1.getD k 0 == x) j) := by
            unfold Hid; rw [attrZ, hyd]
          have hab := attrZ_bd (fun k => l1.getD k 0 == x) j
          obtain ⟨A, hA⟩ : ∃ A, attrZ (fun k => l1.getD k 0 == x) j = A := ⟨_, rfl⟩
          unfold Hid at HS HI
          rw [hA] at HS HI hab
          have HS := Lib.hid HS; have HI := Lib.hid HI
          clear hy hc1 kv hyd hA
          by_cases he : (y == x) = true
          · have HS : Hid (attrZ (fun k => l1.getD k 0 == x) (j + 1) = putZ A j true) := by have := HS.out; rw [if_pos he] at this; exact this
            go_wp2_with fail
            go_quiet (fail)
            obtain ⟨w5, hw5⟩ : ∃ W, wr.drewN nq = W := ⟨_, rfl⟩
            have HI5 : Hid (BoxC w5 w4.heap.size (.int .i64 A) (.int .i64 (-1)) ∧ Below w4.heap.size w4 w5) := by
              rw [← hw5]; exact ⟨HI.out.1, HI.out.2.os, HI.out.2.tape, HI.out.2.output, HI.out.2.size, HI.out.2.block⟩
            rw [hw5]
            clear hw5 HI k1 k2
            have c0 := HI5.out.1.c0
            go_wp2_with fail
            refine (put_any A j true _ (by omega) (by omega)).mono ?_
            rintro e w6 ⟨rfl, b6⟩
            have x6 := HI5.out.1.below b6
            have hb6 := HI5.out.2.trans (b6.mono HI5.out.2.size)
            have c1 := x6.z0 0
            have c2 := x6.c0
            have HG : Hid (BoxC (w6.setCell ⟨w4.heap.size, 0, none⟩ (.int .i64 (putZ A j true))) w4.heap.size (.int .i64 (putZ A j true)) (.int .i64 (-1)) ∧ Below w4.heap.size w4 (w6.setCell ⟨w4.heap.size, 0, none⟩ (.int .i64 (putZ A j true)))) :=
              ⟨x6.s0 _, hb6.setCell (p := ⟨w4.heap.size, 0, none⟩) (Nat.le_refl _) _⟩
            clear x6 hb6 b6 HI5 c0
            go_wp2
            go_roundw
            case rel => exact ⟨j + 1, by go_num, by omega, by rw [HS.out]; exact HG⟩
            case measure => simp [intOf]; omega
          · have he' : (y == x) = false := by simpa using he
            have HS : Hid (attrZ (fun k => l1.getD k 0 == x) (j + 1) = A) := by have := HS.out; rw [if_neg he] at this; exact this
            clear he
            go_wp2_with fail
            go_quiet (fail)
            obtain ⟨w5, hw5⟩ : ∃ W, wr.drewN nq = W := ⟨_, rfl⟩
            have HI5 : Hid (BoxC w5 w4.heap.size (.int .i64 A) (.int .i64 (-1)) ∧ Below w4.heap.size w4 w5) := by
              rw [← hw5]; exact ⟨HI.out.1, HI.out.2.os, HI.out.2.tape, HI.out.2.output, HI.out.2.size, HI.out.2.block⟩
            rw [hw5]
            clear hw5 HI k1 k2
            go_wp2
            go_roundw
            case rel => exact ⟨j + 1, by go_num, by omega, by rw [HS.out]; exact HI5⟩
            case measure => simp [intOf]; omega
        · obtain rfl : j = n := by omega
          obtain ⟨A, hA⟩ : ∃ A, attrZ (fun k => l1.getD k 0 == x) j = A := ⟨_, rfl⟩
          unfold Hid at HI
          rw [hA] at HI
          have HAA := Lib.hid hA
          have HI := Lib.hid HI
          clear hA
          obtain ⟨w5, rfl⟩ : ∃ w', w' = wr := ⟨_, rfl⟩
          have K0 : constZ C x 0 = -1 := rfl
          go_wp2
          go_loopw [13] (fun kk wr => ∃ m : Nat, kk = .int .i64 m ∧ m ≤ nc ∧ Hid (BoxC wr w4.heap.size (.int .i64 A) (.int .i64 (constZ C x m)) ∧ Below w4.heap.size w4 wr)) (fun kk _ => nc - (intOf kk).toNat)
          case atStart => exact ⟨0, rfl, Nat.zero_le _, HI.out⟩
          case round =>
            clear HI
            obtain ⟨m, rfl, hm, HI⟩ := hrel
            by_cases hmn : m < nc
            · have p2 : (m : Int) < (nc : Int) := by omega
              have q0 : (0 : Int) ≤ (m : Int) := by omega
              have q1 : (0 : Int) ≤ (k : Int) := by omega
              have hml : m < C.length := by rw [HNC.out]; exact hmn
              obtain ⟨y, hy⟩ : ∃ y, C[m]? = some y := ⟨_, List.getElem?_eq_getElem hml⟩
              obtain ⟨b1, o1, rfl, hc1⟩ := C4.out.at (by omega)
              have kv : w4.cell? ⟨b1, o1 + m, none⟩ = some (.int .i64 y) := hc1 m _ (by simp [ints, hy])
              have hbv : b1 < w4.heap.size := World.block_lt_of_cell? w4 _ kv
              have k1 : wr.cell? ⟨b1, o1 + m, none⟩ = some (.int .i64 y) := (HI.out.2.cell (p := ⟨b1, o1 + m, none⟩) hbv).trans kv
              have k2 : wr.cell? ⟨bL, oL + k, none⟩ = some (.int .i64 x) := (HI.out.2.cell (p := ⟨bL, oL + k, none⟩) hbL).trans kL
              have hyd : C.getD m 0 = y := by rw [List.getD_eq_getElem?_getD, hy]; rfl
              have HS : Hid (constZ C x (m + 1) = if y = x then (m : Int) else constZ C x m) := by
                unfold Hid; rw [constZ, hyd]
              obtain ⟨Q, hQ⟩ : ∃ Q, constZ C x m = Q := ⟨_, rfl⟩
              unfold Hid at HS HI
              rw [hQ] at HS HI
              have HS := Lib.hid HS; have HI := Lib.hid HI
              clear hy hc1 kv hyd hQ
              by_cases he : y = x
              · have he' : (y == x) = true := by simp [he]
                have HS : Hid (constZ C x (m + 1) = m) := by have := HS.out; rw [if_pos he] at this; exact this
                clear he
                go_wp2_with fail
                go_quiet (fail)
                obtain ⟨w6, hw6⟩ : ∃ W, wr.drewN nq = W := ⟨_, rfl⟩
                have HI6 : Hid (BoxC w6 w4.heap.size (.int .i64 A) (.int .i64 Q) ∧ Below w4.heap.size w4 w6) := by
                  rw [← hw6]; exact ⟨HI.out.1, HI.out.2.os, HI.out.2.tape, HI.out.2.output, HI.out.2.size, HI.out.2.block⟩
                rw [hw6]
                clear hw6 HI k1 k2
                have c1 := HI6.out.1.z0 1
                have c2 := HI6.out.1.c1
                have HG : Hid (BoxC (w6.setCell ⟨w4.heap.size, 1, none⟩ (.int .i64 m)) w4.heap.size (.int .i64 A) (.int .i64 m) ∧ Below w4.heap.size w4 (w6.setCell ⟨w4.heap.size, 1, none⟩ (.int .i64 m))) :=
                  ⟨HI6.out.1.s1 _, HI6.out.2.setCell (p := ⟨w4.heap.size, 1, none⟩) (Nat.le_refl _) _⟩
                clear HI6
                go_wp2
                go_roundw
                case rel => exact ⟨m + 1, by go_num, by omega, by rw [HS.out]; exact HG⟩
                case measure => simp [intOf]; omega
              · have he' : (y == x) = false := by simp [he]
                have HS : Hid (constZ C x (m + 1) = Q) := by have := HS.out; rw [if_neg he] at this; exact this
                clear he
                go_wp2_with fail
                go_quiet (fail)
                obtain ⟨w6, hw6⟩ : ∃ W, wr.drewN nq = W := ⟨_, rfl⟩
                have HI6 : Hid (BoxC w6 w4.heap.size (.int .i64 A) (.int .i64 Q) ∧ Below w4.heap.size w4 w6) := by
                  rw [← hw6]; exact ⟨HI.out.1, HI.out.2.os, HI.out.2.tape, HI.out.2.output, HI.out.2.size, HI.out.2.block⟩
                rw [hw6]
                clear hw6 HI k1 k2
                go_wp2
                go_roundw
                case rel => exact ⟨m + 1, by go_num, by omega, by rw [HS.out]; exact HI6⟩
                case measure => simp [intOf]; omega
            · obtain rfl : m = nc := by omega
              have HCZ : Hid (clsZ (fun x k => l1.getD k 0 == x) j C x = (A, constZ C x m)) := by unfold Hid clsZ; rw [HAA.out, HNC.out]
              obtain ⟨Q, hQ⟩ : ∃ Q, constZ C x m = Q := ⟨_, rfl⟩
              unfold Hid at HCZ HI
              rw [hQ] at HCZ HI
              have HCZ := Lib.hid HCZ; have HI := Lib.hid HI
              clear hQ HAA K0 R4 C4
              go_upto_if 69 with fail
              go_cut [] (fun wx => Hid (Z3 w3 w2.heap.size w4.heap.size ((L.take k).map (clsZ (fun x k => l1.getD k 0 == x) j C)) (gapsZ (kap r) (L.take (k + 1))) A Q wx))
              case first =>
                by_cases hk0 : k = 0
                · subst hk0
                  rw [show ((0 : Nat) : Int) = 0 from rfl]
                  have HZ : Hid (Z3 w3 w2.heap.size w4.heap.size ((L.take 0).map (clsZ (fun x k => l1.getD k 0 == x) j C)) (gapsZ (kap r) (L.take (0 + 1))) A Q wr) := by
                    unfold Hid
                    rw [gapsZ_one]
                    exact Z3.still HA.out HI.out.2 (by have := HA.out.grown.size; omega) HI.out.1
                  go_wp2_with fail
                  go_meet
                  exact HZ
                · obtain ⟨k', hk'⟩ : ∃ k', k = k' + 1 := ⟨k - 1, by omega⟩
                  have p3 : (0 : Int) < (k : Int) := by omega
                  have ha : k' < L.length := by omega
                  obtain ⟨a, ha⟩ : ∃ a, L[k']? = some a := ⟨_, List.getElem?_eq_getElem ha⟩
                  have hbl := HI.out.2
                  have k1 : wr.cell? ⟨bL, oL + k', none⟩ = some (.int .i64 a) := (hbl.cell (p := ⟨bL, oL + k', none⟩) hbL).trans (HCL.out k' _ (by simp [ints, ha]))
                  have k2 : wr.cell? ⟨bL, oL + k, none⟩ = some (.int .i64 x) := (hbl.cell (p := ⟨bL, oL + k, none⟩) hbL).trans kL
                  obtain ⟨u1, u2, bx, zo⟩ := HA.out.ex
                  have hw4 := HA.out.grown.size
                  have hb9 : w2.heap.size < w4.heap.size := by omega
                  have BX : Hid (Box2 wr w2.heap.size u1 u2) := (hbl.block _ hb9).trans bx
                  have ZO := Lib.hid (zo.below hbl)
                  have c9 := BX.out.c1
                  have f9 := BX.out.z0 1
                  have hbda := hi1 a (mem_sortS _ _ (by rw [HhL.out]; exact List.mem_of_getElem? ha))
                  have hbdx := hi1 x (mem_sortS _ _ (by rw [HhL.out]; exact List.mem_of_getElem? HX.out))
                  have hkp := kap_le r
                  obtain ⟨kr, hkr⟩ : ∃ q, kap r = q := ⟨_, rfl⟩
                  have HKR := Lib.hid hkr
                  rw [hkr] at hkp
                  have p6 : (0 : Int) ≤ (k : Int) := by omega
                  have HK' := Lib.hid hk'
                  have HAH := Lib.hid ha
                  have hbL2 : bL < w2.heap.size := by
                    obtain ⟨b', o', e, hc⟩ := (Reads.of_owns OL.out).at (by omega)
                    cases e
                    exact World.block_lt_of_cell? w2 _ (hc k (.int .i64 x) (by simp [ints, HX.out]))
                  have hwsz := hbl.size
                  have hbLw : bL < wr.heap.size := by omega
                  obtain ⟨gl, hgl⟩ : ∃ gl, gapsZ (kap r) (L.take k) = gl := ⟨_, rfl⟩
                  have HGL := Lib.hid hgl
                  have hgln : gl.length ≤ 62 := by rw [← hgl, gapsZ_len, List.length_take]; omega
                  unfold Hid at ZO
                  rw [hgl] at ZO
                  have ZO := Lib.hid ZO
                  have HB5 : Hid (Below wr.heap.size wr (wr.drew.alloc (.cells #[.int .i64 (gapZ a x kr)] 3))) := ((Below.refl _ wr).drew).alloc (Nat.le_refl _) _
                  have BX5 : Hid (Box2 (wr.drew.alloc (.cells #[.int .i64 (gapZ a x kr)] 3)) w2.heap.size u1 u2) := Box2.alloc (W := wr.drew) BX.out _
                  have hbL3 : bL < w3.heap.size := by omega
                  have hbne : bL ≠ w2.heap.size := by omega
                  have hM63 : gl.length + 1 ≤ maxLen := by unfold maxLen; omega
                  have hMb : (gl.length + 1) * 8 ≤ 140737488355328 := by omega
                  have HBS : w3.heap.size ≤ (wr.drew.alloc (.cells #[.int .i64 (gapZ a x kr)] 3)).heap.size := by
                    have := HB5.out.size; omega
                  have HSZ : (wr.drew.alloc (.cells #[.int .i64 (gapZ a x kr)] 3)).heap.size = wr.heap.size + 1 := World.size_alloc _ _
                  have hkm : kr ≤ 2097151 := by omega
                  have hb9w : w2.heap.size < wr.heap.size := by omega
                  have hga := hbda.1; have hgx := hbdx.2
                  have HRB : Hid (u2.ownBlock ≠ some w4.heap.size) := fun e => by have := (zo.2.lt _ e).2; omega
                  have HRC : Hid (u1.ownBlock ≠ some w4.heap.size) := fun e => by have := (zo.1.lt _ e).2; omega
                  have HROW : Hid (u2.ownBlock ≠ some w2.heap.size) := BX.out.row ZO.out.2 (by decide)
                  have HBL := Lib.hid hbl
                  obtain ⟨i0, hi0, hz0, hz1, hz2⟩ := info_parts info_int'
                  have HIP := Lib.hid (And.intro hi0 (And.intro hz0 (And.intro hz1 hz2)))
                  clear hi0 hz0 hz1 hz2 ha hbl bx zo hkr hk' hk0 hgl
                  have a1 : (0 : Int) ≤ (k : Int) - 1 := by omega
                  have a2 : (k : Int) - 1 < (nl : Int) := by omega
                  have a3 : ((k : Int) - 1).toNat = k' := by have := HK'.out; omega
                  have a5 : (1 : Int) ≤ (k : Int) := by omega
                  have wr1 : IntKind.i64.wrap ((k : Int) - 1) = (k : Int) - 1 := IntWalk.i64_in _ ⟨by omega, by omega⟩
                  go_wp2_with fail
                  rw [ldGap_is]
                  go_region_held3 (fun w' => w'.cell? ⟨bL, oL + k', none⟩ = some (.int .i64 a) ∧ w'.cell? ⟨bL, oL + k, none⟩ = some (.int .i64 x))
                    (first | go_keep | (refine ⟨?_, ?_⟩ <;> (first | assumption | go_keep | (rw [World.cell?_setCell_other _ _ _ _ (by first | (simp; done) | (simp; exact hbne))]; assumption))))
                    (first
                      | (go_simp; go_at_call 33; refine (rcap_any _ _).mono ?_; rintro e w' ⟨rfl, rfl⟩; rw [HKR.out])
                      | (go_simp; go_at_call 32; refine (rgap_any a x kr _ hga hgx hkm).mono ?_; rintro e w' ⟨rfl, rfl⟩)
                      | (refine step_append_lies _ (by rfl) _ _ _ (by rfl) w3.heap.size 3 i0 _ 1 8 Tryz.underlying26 HIP.out.1 HIP.out.2.1 HIP.out.2.2.1 HIP.out.2.2.2 rfl Nat.one_pos u2 gl.length (ints gl) (by rfl) (World.ownsRow.alloc (World.ownsRow.drew ZO.out.2) _) ⟨wr.heap.size, 0, none⟩ 1 1 [.int .i64 (gapZ a x kr)] (by rfl) (by rfl) (World.news_of_block (cs := #[.int .i64 (gapZ a x kr)]) (t := 3) (fr := (0, 0)) (by show (wr.alloc _).heap[wr.heap.size]? = _; exact World.alloc_heap_new wr _)) (by simp [Value.oneCell']) Nat.one_pos hM63 hMb HBS (wr.heap.size + 1) HSZ ?_
                         intro g3 cap3 w6 hown3 hgrow hat hlt3
                         have hB6 := below_of_grown hgrow (fun k hk => (ZO.out.2.lt k hk).1) HBS
                         have q1 := (hB6.cell (p := ⟨bL, oL + k', none⟩) hbL3).trans ((HB5.out.cell (p := ⟨bL, oL + k', none⟩) hbLw).trans k1)
                         have q2 := (hB6.cell (p := ⟨bL, oL + k, none⟩) hbL3).trans ((HB5.out.cell (p := ⟨bL, oL + k, none⟩) hbLw).trans k2)
                         have bx6 := BX5.out.kept hgrow HROW.out
                         have e9 := bx6.c1
                         have e8 := bx6.c0
                         have f9' := bx6.z0 1
                         clear hB6))
                  all_goals
                    have hB6 := below_of_grown hgrow (fun k hk => (ZO.out.2.lt k hk).1) HBS
                    have bc6 : BoxC w6 w4.heap.size (.int .i64 A) (.int .i64 Q) := (hgrow.block _ (Nat.lt_of_lt_of_le HI.out.1.lt HB5.out.size) (fun e => HRB.out e.symm)).trans ((HB5.out.block _ HI.out.1.lt).trans HI.out.1)
                    have oc6 := owns_beside (World.ownsRow.alloc (World.ownsRow.drew ZO.out.2) (.cells #[.int .i64 (gapZ a x kr)] 3)) (World.ownsRow.alloc (World.ownsRow.drew ZO.out.1) (.cells #[.int .i64 (gapZ a x kr)] 3)) (by decide) hgrow
                    have hg6 := grown_then_below HA.out.grown (((HBL.out.mono HA.out.grown.size).trans (HB5.out.mono (Nat.le_trans HA.out.grown.size HBL.out.size))).trans hB6)
                    have HZ : Hid (Z3 w3 w2.heap.size w4.heap.size ((L.take k).map (clsZ (fun x k => l1.getD k 0 == x) j C)) (gapsZ (kap r) (L.take (k + 1))) A Q (w6.setCell ⟨w2.heap.size, 1, none⟩ (.slice (some ⟨g3, 0, none⟩) (gl.length + 1) cap3))) := by
                      refine Z3.put (gl := gl ++ [gapZ a x kr]) bx6 (by simpa [ints] using hown3) (by simp) oc6 bc6 (by omega) hg6 ?_
                      have := gapsZ_step (kap r) L k' a x HAH.out (by rw [← HK'.out]; exact HX.out)
                      rw [← HK'.out, HGL.out] at this
                      rw [HKR.out] at this ⊢
                      exact this
                    clear a1 a2 a3 a5 wr1 q1 q2 oc6 bc6 hg6 hB6 hgrow hown3 bx6
                    go_wp2_with fail
                    go_meet
                    exact HZ
              case rest =>
                obtain ⟨u1, u2, bx, zo⟩ := hcut.out.ex
                have bc := hcut.out.cls
                have HG := Lib.hid hcut.out.grown
                have HMAP : Hid ((L.take (k + 1)).map (clsZ (fun x k => l1.getD k 0 == x) j C) = (L.take k).map (clsZ (fun x k => l1.getD k 0 == x) j C) ++ [(A, Q)]) := by
                  unfold Hid
                  rw [List.take_add_one, HX.out, List.map_append]
                  show _ ++ [clsZ _ _ _ _] = _
                  rw [HCZ.out]
                obtain ⟨clk, hclk⟩ : ∃ clk, (L.take k).map (clsZ (fun x k => l1.getD k 0 == x) j C) = clk := ⟨_, rfl⟩
                obtain ⟨gk, hgk⟩ : ∃ gk, gapsZ (kap r) (L.take (k + 1)) = gk := ⟨_, rfl⟩
                have hlk : clk.length ≤ 62 := by rw [← hclk, List.length_map, List.length_take]; omega
                unfold Hid at HMAP
                rw [hclk] at zo HMAP
                rw [hgk] at zo
                have HMAP := Lib.hid HMAP; have HGK := Lib.hid hgk
                obtain ⟨p1', q1', hu1⟩ := owns_len zo.1
                have c0 := bx.c0; have f0 := bx.z0 0
                have d0 := bc.c0; have d1 := bc.c1
                have hrow := bx.row zo.1 (by decide)
                have hsz3 := HG.out.size
                have HZO := Lib.hid zo; have HBX := Lib.hid bx; have HROW := Lib.hid hrow
                have hh1 := Lib.hid hu1
                clear hclk hgk bx zo bc hrow hcut HA HI HX HCL HCZ H23 HB3 Y9 Z6 R2 OC OL HhC HhL hu1 hi1 kL
                go_wp2_with (at_builtin; refine app1 wc #[.int .i64 A, .int .i64 Q] rfl _ _ 25 rfl w3.heap.size 47 (.agg #[.int .i64 0, .int .i64 0]) 2 16 Tryz.underlying25 info_class rfl (by decide) (by decide) u1 clk.length _ rfl (by exact HZO.out.1) rfl (by simp) rfl (by simp [Value.oneCell']) (by omega) hsz3 ?_; intro v' w8 hown' hg' hb'; obtain ⟨ad8, cap8, rfl⟩ := owns_len hown'; have bx8 := HBX.out.kept hg' HROW.out; have e8 := bx8.c0; have f8 := bx8.z0 0; have HG8 := Lib.hid hg'; have HO8 := Lib.hid hown'; have HBX8 := Lib.hid bx8; clear hown' hg' hb' bx8)
                have HGR : Hid (w3.grownBy w8 (some w2.heap.size)) := grown_then_below HG.out (below_of_grown HG8.out (fun k e => (HZO.out.1.lt k e).1) hsz3)
                have og8 := owns_beside HZO.out.1 HZO.out.2 (by decide) HG8.out
                have HZB : Hid (ZB w3 w2.heap.size ((L.take (k + 1)).map (clsZ (fun x k => l1.getD k 0 == x) j C)) (gapsZ (kap r) (L.take (k + 1))) (w8.setCell ⟨w2.heap.size, 0, none⟩ (.slice ad8 (clk.length + 1) cap8))) := by
                  unfold Hid
                  rw [HGK.out]
                  exact ZB.put (cl := clk ++ [(A, Q)]) HBX8.out (by simpa [cellsP] using HO8.out) (by simp) og8 HGR.out HMAP.out
                clear og8
                go_roundw
                case rel =>
                  first | exact ⟨k + 1, by go_num, by omega, HZB⟩ | ((repeat apply Exists.intro); exact ⟨⟨k + 1, by go_num, by omega, HZB⟩, rfl⟩)
                case measure => simp [intOf]; omega
    · obtain rfl : k = nl := by omega
      have hLt : L.take k = L := by rw [← HNL.out, List.take_length]
      obtain ⟨u1, u2, bx, zo⟩ := HA.out.ex
      rw [hLt] at zo
      have z6 := Z6.out.kept HA.out.grown (by simp; omega)
      have HBE := Lib.hid (HB3.out.grown HA.out.grown (by omega) (fun k e => by cases e; omega))
      obtain ⟨p1, q1, hu1⟩ := owns_len zo.1
      obtain ⟨p2, q2, hu2⟩ := owns_len zo.2
      obtain ⟨N1, hN1⟩ : ∃ N, (L.map (clsZ (fun x k => l1.getD k 0 == x) n C)).length = N := ⟨_, rfl⟩
      obtain ⟨N2, hN2⟩ : ∃ N, (gapsZ (kap r) L).length = N := ⟨_, rfl⟩
      rw [hN1] at hu1; rw [hN2] at hu2
      subst hu1; subst hu2
      have c0 := bx.c0; have c1 := bx.c1
      have e0 := z6.c0; have e1 := z6.c1; have f0 := z6.z0 0; have f1 := z6.z0 1
      have hl4 := z6.lt
      have HZO := Lib.hid (zo.mono (show w.heap.size ≤ w3.heap.size by omega)); have HZ6 := Lib.hid z6
      clear hLt bx zo z6 HA hN1 hN2
      go_wp2
      have v1 := (HZ6.out.s0 (.slice p1 N1 q1)).s1 (.slice p2 N2 q2)
      have g0 := v1.c0; have g1 := v1.c1
      refine bodyPost_ret (v := .agg #[.slice p1 N1 q1, .slice p2 N2 q2]) (by simp [results, Tryz.results12, go_sem, g0, g1]) rfl ?_
      refine ⟨_, _, rfl, ?_, (HBE.out.setCell (p := ⟨w.heap.size, 0, none⟩) (Nat.le_refl _) _).setCell (p := ⟨w.heap.size, 1, none⟩) (Nat.le_refl _) _⟩
      exact ⟨ownsRow_setCell_other (ownsRow_setCell_other HZO.out.1 (HZ6.out.row HZO.out.1 (by decide)) _) (HZ6.out.row HZO.out.1 (by decide)) _, ownsRow_setCell_other (ownsRow_setCell_other HZO.out.2 (HZ6.out.row HZO.out.2 (by decide)) _) (HZ6.out.row HZO.out.2 (by decide)) _⟩

end Go.Proofs.YtkkoooagamadjaaGreatDoor

namespace Go.Proofs.YtkkoooagamadjaaGreatDoor
open Go.RowKit

/-- the load of the zone's gaps, under a name of its own -/
def ldGap2 : Op := Op.load 26 (Operand.tmp 105)
theorem ldGap2_is : Op.load 26 (Operand.tmp 105) = ldGap2 := rfl
attribute [local go_sem] ldGap2

theorem mem_selZ (vals : List Int) (inn : List Bool) (k : Nat) (hk : k ≤ vals.length) (x : Int) (h : x ∈ selZ vals inn k) : x ∈ vals := by
  unfold selZ at h
  simp only [List.mem_map, List.mem_filter, List.mem_range] at h
  obtain ⟨i, ⟨h1, _⟩, rfl⟩ := h
  rw [List.getD_eq_getElem?_getD, List.getElem?_eq_getElem (by omega)]
  exact List.getElem_mem (by omega)

end Go.Proofs.YtkkoooagamadjaaGreatDoor

namespace Go.Proofs.YtkkoooagamadjaaGreatDoor
open Go.RowKit

/-- a written zone in new memory -/
theorem zone_lit (w : World) (cl : List (Int × Int)) (gl : List Int) (us vs : Array Value) (hu : us.toList = cellsP cl) (hv : vs.toList = ints gl) (h1 : cl.length ≤ 16) (h2 : gl.length ≤ 16) :
    ZoneAt ((w.alloc (.cells us 47)).alloc (.cells vs 3)) w.heap.size (.slice (some ⟨w.heap.size, 0, none⟩) cl.length cl.length) (.slice (some ⟨w.heap.size + 1, 0, none⟩) gl.length gl.length) cl gl := by
  have a1 : (w.alloc (.cells us 47)).ownsRow w.heap.size 47 2 (.slice (some ⟨w.heap.size, 0, none⟩) cl.length cl.length) cl.length (cellsP cl) := by
    rw [← hu]
    exact World.ownsRow_lit w us cl.length (Nat.le_refl _) (by unfold maxLen; omega) (by rw [← Array.length_toList, hu, cellsP_len])
  have a2 : ((w.alloc (.cells us 47)).alloc (.cells vs 3)).ownsRow (w.alloc (.cells us 47)).heap.size 3 1 (.slice (some ⟨(w.alloc (.cells us 47)).heap.size, 0, none⟩) gl.length gl.length) gl.length (ints gl) := by
    rw [← hv]
    exact World.ownsRow_lit _ vs gl.length (Nat.le_refl _) (by unfold maxLen; omega) (by rw [← Array.length_toList, hv, ints_len, Nat.mul_one])
  rw [World.size_alloc] at a2
  exact ⟨a1.alloc _, owns_mono a2 (Nat.le_succ _)⟩

theorem drop_123 : dropZ 1 3 [(1, -1), (2, -1), (4, -1)] [1, 2] = ([(1, -1), (4, -1)], [4]) := by decide +kernel

end Go.Proofs.YtkkoooagamadjaaGreatDoor
