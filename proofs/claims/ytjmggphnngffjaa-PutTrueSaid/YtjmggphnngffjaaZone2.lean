/- Some of warderref23: the zone of the numbers of some attributes (printed by gen_zone2.py out of XZone1). -/
import Derived.Test.YtjmggphnngffjaaZone1
namespace Go.Proofs.Ytjmggphnngffjaa
open Go.RowKit

/-- the load of the zone's gaps, under a name of its own -/
def ldGap2 : Op := Op.load 39 (Operand.tmp 105)
theorem ldGap2_is : Op.load 39 (Operand.tmp 105) = ldGap2 := rfl
attribute [local go_sem] ldGap2

theorem mem_selZ (vals : List Int) (inn : List Bool) (k : Nat) (hk : k ≤ vals.length) (x : Int) (h : x ∈ selZ vals inn k) : x ∈ vals := by
  unfold selZ at h
  simp only [List.mem_map, List.mem_filter, List.mem_range] at h
  obtain ⟨i, ⟨h1, _⟩, rfl⟩ := h
  rw [List.getD_eq_getElem?_getD, List.getElem?_eq_getElem (by omega)]
  exact List.getElem_mem (by omega)

set_option maxRecDepth 100000 in
set_option maxHeartbeats 1600000 in
theorem rsome_any (v1 vi v2 : Value) (l1 : List Int) (inn : List Bool) (l2 : List Int) (r : Int) (w : World) (h1 : Reads w v1 (ints l1)) (hi : Reads w vi (bools inn)) (h2 : Reads w v2 (ints l2)) (hin : inn.length = l1.length) (hl1 : l1.length ≤ 31) (hl2 : l2.length ≤ 31) (hi0 : ∀ x ∈ l1 ++ l2, -9223372036854775808 ≤ x ∧ x ≤ 9223372036854775807) :
    Calls Try.prog 17 #[v1, vi, v2, .int .i64 r] w fun e w' => ∃ u1 u2, e = .returned (.agg #[u1, u2]) ∧ ZoneAt w' w.heap.size u1 u2 (zoneZ (pS l1 inn) l1.length (sortS l2) (sortS (l2 ++ selZ l1 inn l1.length)) (kap r)).1 (zoneZ (pS l1 inn) l1.length (sortS l2) (sortS (l2 ++ selZ l1 inn l1.length)) (kap r)).2 ∧ Below w.heap.size w w' := by
  have hi1 : ∀ x ∈ l2 ++ selZ l1 inn l1.length, -9223372036854775808 ≤ x ∧ x ≤ 9223372036854775807 := fun x hx => by
    rcases List.mem_append.1 hx with h | h
    · exact hi0 x (List.mem_append_right _ h)
    · exact hi0 x (List.mem_append_left _ (mem_selZ _ _ _ (Nat.le_refl _) _ h))
  have hsl := selZ_len l1 inn l1.length
  obtain ⟨n, hn⟩ : ∃ n, l1.length = n := ⟨_, rfl⟩
  obtain ⟨C, hC⟩ : ∃ C, sortS l2 = C := ⟨_, rfl⟩
  obtain ⟨L, hL⟩ : ∃ L, sortS (l2 ++ selZ l1 inn l1.length) = L := ⟨_, rfl⟩
  rw [hC, hL]
  have HhC := Lib.hid hC; have HhL := Lib.hid hL
  clear hC hL hi0
  have hL62 : L.length ≤ 62 := by rw [← HhL.out]; refine Nat.le_trans (sortS_len _) ?_; rw [List.length_append]; omega
  obtain ⟨ad1, cap1, rfl, -⟩ := h1.len
  obtain ⟨adI, capI, rfl, -⟩ := hi.len
  have hb0 : Below w.heap.size w (w.alloc (.cells #[.slice none 0 0, .slice none 0 0] 45)) := (Below.refl _ w).alloc (Nat.le_refl _) _
  have x6 := Box2.new w (.slice none 0 0) (.slice none 0 0)
  have r1 := h1.below (Nat.le_refl _) hb0
  have rI := hi.below (Nat.le_refl _) hb0
  have r2 := h2.below (Nat.le_refl _) hb0
  rw [bools_len, hin, hn] at hi rI ⊢
  rw [ints_len, hn] at h1 r1 ⊢
  rw [hn] at hl1 hsl hin
  have HN := Lib.hid hn
  have HI1 := Lib.hid hin
  have H1 := Lib.hid r1; have H2 := Lib.hid r2; have HI0 := Lib.hid rI
  have HB0 := Lib.hid hb0; have X6 := Lib.hid x6
  have hsz0 : (w.alloc (.cells #[.slice none 0 0, .slice none 0 0] 45)).heap.size = w.heap.size + 1 := by simp
  clear h1 h2 r1 r2 hb0 x6 hn hi rI hin
  go_enter Try.func17, Try.ntmps17
  go_wp2_with fail
  refine (rsorted_any v2 l2 _ H2.out (by omega)).mono ?_
  rintro e w1 ⟨vC, rfl, oC, b1⟩
  have HB1 := HB0.out.trans (b1.mono HB0.out.size)
  have R1 := Lib.hid (H1.out.below (Nat.le_refl _) b1)
  have RI1 := Lib.hid (HI0.out.below (Nat.le_refl _) b1)
  have RV2 := Lib.hid (H2.out.below (Nat.le_refl _) b1)
  have X61 := Lib.hid (show Box2 w1 w.heap.size _ _ from (b1.block _ X6.out.lt).trans X6.out)
  rw [hsz0] at oC
  have HC := Lib.hid oC
  have hs1 := b1.size
  rw [hsz0] at hs1
  have HB1 := Lib.hid HB1
  clear b1 oC
  have own0 : (w1.alloc (.cells #[] 2)).ownsRow w1.heap.size 2 1 (.slice (some ⟨w1.heap.size, 0, none⟩) 0 0) 0 [] := World.ownsRow_lit w1 #[] 0 (Nat.le_refl _) (Nat.zero_le _) rfl
  have HBA : Hid (Below w1.heap.size w1 (w1.alloc (.cells #[] 2))) := (Below.refl _ w1).alloc (Nat.le_refl _) _
  have hlen2 := ints_len l2
  go_wp2_with (first
    | (at_builtin; refine appR _ rfl _ _ 35 rfl w1.heap.size 2 (.int .i64 0) 8 Try.underlying35 info_int64 rfl (by decide) _ 0 [] rfl (by exact own0) _ _ rfl (RV2.out.below (Nat.le_refl _) HBA.out) (ints_one _) (by rw [hlen2]; omega) (by simp) ?_; clear own0; intro v' wA hownA hbA)
    | fail)
  have HOA : Hid (∃ m, m ≤ 31 + 0 ∧ wA.ownsRow w1.heap.size 2 1 v' m (ints (l2 ++ selZ l1 inn 0)) ∧ Below w1.heap.size w1 wA) :=
    ⟨0 + (ints l2).length, by rw [hlen2]; omega, by simpa [selZ, ints] using hownA, HBA.out.trans hbA⟩
  clear hownA hbA hlen2 HBA
  go_loopw [10, 11] (fun out i wr => ∃ k : Nat, i = .int .i64 k ∧ k ≤ n ∧ Hid (∃ m, m ≤ 31 + k ∧ wr.ownsRow w1.heap.size 2 1 out m (ints (l2 ++ selZ l1 inn k)) ∧ Below w1.heap.size w1 wr)) (fun _ i _ => n - (intOf i).toNat)
  case atStart => exact ⟨0, rfl, Nat.zero_le _, HOA⟩
  case round =>
    clear HOA
    obtain ⟨k, rfl, hk, HA⟩ := hrel
    by_cases hlt : k < n
    · have p1 : (k : Int) < (n : Int) := by omega
      have hkl : k < l1.length := by rw [HN.out]; exact hlt
      have hki : k < inn.length := by rw [HI1.out]; exact hlt
      obtain ⟨y, hy⟩ : ∃ y, l1[k]? = some y := ⟨_, List.getElem?_eq_getElem hkl⟩
      obtain ⟨bq, hbq⟩ : ∃ y, inn[k]? = some y := ⟨_, List.getElem?_eq_getElem hki⟩
      obtain ⟨m, hm, hown, hb⟩ := HA.out
      have hr1 := R1.out.below (Nat.le_refl _) hb
      have hrI := RI1.out.below (Nat.le_refl _) hb
      obtain ⟨b1, o1, rfl, hc1⟩ := hr1.at (by omega)
      obtain ⟨b3, o3, rfl, hc3⟩ := hrI.at (by omega)
      have k1 : wr.cell? ⟨b1, o1 + k, none⟩ = some (.int .i64 y) := hc1 k _ (by simp [ints, hy])
      have k3 : wr.cell? ⟨b3, o3 + k, none⟩ = some (.bool bq) := hc3 k _ (by simp [bools, hbq])
      have HS : Hid (selZ l1 inn (k + 1) = selZ l1 inn k ++ if bq then [y] else []) := by
        unfold Hid
        rw [selZ_succ, List.getD_eq_getElem?_getD, List.getD_eq_getElem?_getD, hy, hbq]; rfl
      have hsz := hb.size
      have HB := Lib.hid hb
      clear hy hbq hc1 hc3 hr1 hrI hb
      cases bq
      · have HO := Lib.hid hown
        clear hown HA
        go_wp2
        go_roundw
        case rel => exact ⟨k + 1, by go_num, by omega, m, by omega, by rw [HS.out]; simpa using HO.out, HB.out⟩
        case measure => simp [intOf]; omega
      · clear HA
        go_wp2_with (at_builtin; refine app1 wr #[.int .i64 y] rfl _ _ 35 rfl w1.heap.size 2 (.int .i64 0) 1 8 Try.underlying35 info_int64 rfl (by decide) (by decide) _ m _ rfl (by exact hown) rfl (by simp) rfl (by simp [Value.oneCell']) (by omega) hsz ?_; intro v'' wB hown' hg' hb')
        go_roundw
        case rel => exact ⟨k + 1, by go_num, by omega, m + 1, by omega, by rw [HS.out]; simpa [ints] using hown', HB.out.trans hb'⟩
        case measure => simp [intOf]; omega
    · obtain rfl : k = n := by omega
      obtain ⟨m, hm, hown, hb⟩ := HA.out
      have hs1a := hb.size
      obtain ⟨out, hout⟩ : ∃ o, o = u10 := ⟨_, rfl⟩
      rw [← hout] at hown ⊢
      clear hout
      have HRO := Lib.hid (Reads.of_owns hown)
      have X62 := Lib.hid (show Box2 wr w.heap.size _ _ from (hb.block _ X61.out.lt).trans X61.out)
      have R1b := Lib.hid (R1.out.below (Nat.le_refl _) hb)
      have RI1b := Lib.hid (RI1.out.below (Nat.le_refl _) hb)
      have HCb := Lib.hid (owns_below HC.out hb)
      have HB1b := Lib.hid (HB1.out.trans (hb.mono HB1.out.size))
      clear hown hb HA HC X61 R1 RI1 RV2 HB1 H1 H2 HI0 HB0 X6
      obtain ⟨wQ, rfl⟩ : ∃ q, q = wr := ⟨_, rfl⟩
      go_wp2_with fail
      refine (rsorted_any _ (l2 ++ selZ l1 inn k) wQ HRO.out (by have := selZ_len l1 inn k; rw [List.length_append]; omega)).mono ?_
      rintro e w2 ⟨vL, rfl, oL, b2⟩
      have HB2 := HB1b.out.trans (b2.mono HB1b.out.size)
      have oC2 := owns_below HCb.out b2
      have hs2 := b2.size
      have y9 := Box2.new w2 (.slice none 0 0) (.slice none 0 0)
      have hb3 := (Below.refl w2.heap.size w2).alloc (Nat.le_refl _) (.cells #[.slice none 0 0, .slice none 0 0] 45)
      have z6 := Box2.alloc (show Box2 w2 w.heap.size _ _ from (b2.block _ X62.out.lt).trans X62.out) (.cells #[.slice none 0 0, .slice none 0 0] 45)
      have R2 := Lib.hid (R1b.out.below (Nat.le_refl _) b2)
      have I2 := Lib.hid (RI1b.out.below (Nat.le_refl _) b2)
      have OC := Lib.hid oC2
      have OL := Lib.hid (owns_mono oL (show w.heap.size + 1 ≤ wQ.heap.size by omega))
      have H23 := Lib.hid hb3
      have HB3 := Lib.hid (HB2.alloc (by omega) (.cells #[.slice none 0 0, .slice none 0 0] 45))
      have Y9 := Lib.hid y9; have Z6 := Lib.hid z6
      have hs3 : (w2.alloc (.cells #[.slice none 0 0, .slice none 0 0] 45)).heap.size = w2.heap.size + 1 := by simp
      have hC := HhC.out; have hL := HhL.out
      rw [HN.out] at hL
      have hlC : C.length ≤ 31 := by rw [← hC]; exact Nat.le_trans (sortS_len _) hl2
      have hlL : L.length ≤ 62 := hL62
      unfold Hid at OC OL
      rw [hC] at OC
      rw [hL] at OL
      obtain ⟨nc, hnc⟩ : ∃ n, C.length = n := ⟨_, rfl⟩
      obtain ⟨nl, hnl⟩ : ∃ n, L.length = n := ⟨_, rfl⟩
      rw [hnc] at OC hlC
      rw [hnl] at OL hlL
      obtain ⟨adC, capC, rfl⟩ := owns_len OC
      obtain ⟨adL, capL, rfl⟩ := owns_len OL
      have OC := Lib.hid OC; have OL := Lib.hid OL
      have HNC := Lib.hid hnc; have HNL := Lib.hid hnl
      clear hnc hnl hC hL oL oC2 HB2 b2 y9 z6 hb3 HCb X62 R1b RI1b HB1b HRO hL62
      go_wp2
      obtain ⟨w3, hw3⟩ : ∃ w3, w2.alloc (.cells #[.slice none 0 0, .slice none 0 0] 45) = w3 := ⟨_, rfl⟩
      rw [hw3] at H23 HB3 Y9 Z6 hs3 ⊢
      clear hw3
      obtain ⟨n, rfl⟩ : ∃ n', n' = k := ⟨_, rfl⟩
      clear hlt hk hm
      go_loopw [13, 14, 15, 16] (fun i _ _ _ wr => ∃ k : Nat, i = .int .i64 k ∧ k ≤ nl ∧ Hid (ZB w3 w2.heap.size ((L.take k).map (clsZ (pS l1 inn) n C)) (gapsZ (kap r) (L.take k)) wr)) (fun i _ _ _ _ => nl - (intOf i).toNat)
      case atStart => exact ⟨0, rfl, Nat.zero_le _, ⟨⟨_, _, Y9.out, World.ownsRow_nil _ _ _ _, World.ownsRow_nil _ _ _ _⟩, ⟨rfl, rfl, rfl, Nat.le_refl _, fun _ _ _ => rfl⟩⟩⟩
      case round =>
        obtain ⟨k, rfl, hk, HA⟩ := hrel
        obtain ⟨w4, rfl⟩ : ∃ w1, w1 = wr := ⟨_, rfl⟩
        by_cases hlt : k < nl
        · have p1 : (k : Int) < (nl : Int) := by omega
          have H24 : Below w2.heap.size w2 w4 := H23.out.grown HA.out.grown (by omega) (fun k e => by cases e; exact Nat.le_refl _)
          have R4 := Lib.hid (R2.out.below (Nat.le_refl _) H24)
          have I4 := Lib.hid (I2.out.below (Nat.le_refl _) H24)
          have C4 := Lib.hid (Reads.of_owns (owns_below OC.out H24))
          have hkl : k < L.length := by rw [HNL.out]; exact hlt
          obtain ⟨x, hx⟩ : ∃ x, L[k]? = some x := ⟨_, List.getElem?_eq_getElem hkl⟩
          have hrL := Reads.of_owns (owns_below OL.out H24)
          obtain ⟨bL, oL, rfl, hcL⟩ := hrL.at (by omega)
          have kL : w4.cell? ⟨bL, oL + k, none⟩ = some (.int .i64 x) := hcL k _ (by simp [ints, hx])
          have hbL : bL < w4.heap.size := World.block_lt_of_cell? w4 _ kL
          have HX := Lib.hid hx
          have HCL := Lib.hid hcL
          clear hx hcL hrL H24
          go_wp2
          go_loopw [15] (fun kk wr => ∃ j : Nat, kk = .int .i64 j ∧ j ≤ n ∧ Hid (BoxC wr w4.heap.size (.int .i64 (attrZ (pS l1 inn x) j)) (.int .i64 (-1)) ∧ Below w4.heap.size w4 wr)) (fun kk _ => n - (intOf kk).toNat)
          case atStart =>
            exact ⟨0, rfl, Nat.zero_le _, BoxC.new w4 _ _, (Below.refl _ w4).alloc (Nat.le_refl _) _⟩
          case round =>
            obtain ⟨j, rfl, hj, HI⟩ := hrel
            by_cases hjn : j < n
            · have p2 : (j : Int) < (n : Int) := by omega
              have q0 : (0 : Int) ≤ (j : Int) := by omega
              have q1 : (0 : Int) ≤ (k : Int) := by omega
              have hjl : j < l1.length := by rw [HN.out]; exact hjn
              have hji : j < inn.length := by rw [HI1.out]; exact hjn
              obtain ⟨y, hy⟩ : ∃ y, l1[j]? = some y := ⟨_, List.getElem?_eq_getElem hjl⟩
              obtain ⟨bq, hbq⟩ : ∃ y, inn[j]? = some y := ⟨_, List.getElem?_eq_getElem hji⟩
              obtain ⟨b1, o1, rfl, hc1⟩ := R4.out.at (by omega)
              obtain ⟨b3, o3, rfl, hc3⟩ := I4.out.at (by omega)
              have kv : w4.cell? ⟨b1, o1 + j, none⟩ = some (.int .i64 y) := hc1 j _ (by simp [ints, hy])
              have hbv : b1 < w4.heap.size := World.block_lt_of_cell? w4 _ kv
              have k1 : wr.cell? ⟨b1, o1 + j, none⟩ = some (.int .i64 y) := (HI.out.2.cell (p := ⟨b1, o1 + j, none⟩) hbv).trans kv
              have kv3 : w4.cell? ⟨b3, o3 + j, none⟩ = some (.bool bq) := hc3 j _ (by simp [bools, hbq])
              have hbv3 : b3 < w4.heap.size := World.block_lt_of_cell? w4 _ kv3
              have k3 : wr.cell? ⟨b3, o3 + j, none⟩ = some (.bool bq) := (HI.out.2.cell (p := ⟨b3, o3 + j, none⟩) hbv3).trans kv3
              have k2 : wr.cell? ⟨bL, oL + k, none⟩ = some (.int .i64 x) := (HI.out.2.cell (p := ⟨bL, oL + k, none⟩) hbL).trans kL
              have hyd : l1.getD j 0 = y := by rw [List.getD_eq_getElem?_getD, hy]; rfl
              have hbd : inn.getD j false = bq := by rw [List.getD_eq_getElem?_getD, hbq]; rfl
              have HS : Hid (attrZ (pS l1 inn x) (j + 1) = if (bq && (y == x)) = true then putZ (attrZ (pS l1 inn x) j) j true else attrZ (pS l1 inn x) j) := by
                unfold Hid; rw [attrZ, ← hyd, ← hbd]; rfl
              have hab := attrZ_bd (pS l1 inn x) j
              obtain ⟨A, hA⟩ : ∃ A, attrZ (pS l1 inn x) j = A := ⟨_, rfl⟩
              unfold Hid at HS HI
              rw [hA] at HS HI hab
              have HS := Lib.hid HS; have HI := Lib.hid HI
              clear hy hc1 kv hyd hA hbq hc3 kv3 hbd
              cases bq
              · have HS : Hid (attrZ (pS l1 inn x) (j + 1) = A) := by have := HS.out; rw [Bool.false_and, if_neg (by simp)] at this; exact this
                go_wp2_with fail
                go_quiet (fail)
                obtain ⟨w5, hw5⟩ : ∃ W, wr.drewN nq = W := ⟨_, rfl⟩
                have HI5 : Hid (BoxC w5 w4.heap.size (.int .i64 A) (.int .i64 (-1)) ∧ Below w4.heap.size w4 w5) := by
                  rw [← hw5]; exact ⟨HI.out.1, HI.out.2.os, HI.out.2.tape, HI.out.2.output, HI.out.2.size, HI.out.2.block⟩
                rw [hw5]
                clear hw5 HI k1 k2 k3
                go_wp2
                go_roundw
                case rel => exact ⟨j + 1, by go_num, by omega, by rw [HS.out]; exact HI5⟩
                case measure => simp [intOf]; omega
              by_cases he : (y == x) = true
              · have HS : Hid (attrZ (pS l1 inn x) (j + 1) = putZ A j true) := by have := HS.out; rw [Bool.true_and, if_pos he] at this; exact this
                go_wp2_with fail
                go_quiet (fail)
                obtain ⟨w5, hw5⟩ : ∃ W, wr.drewN nq = W := ⟨_, rfl⟩
                have HI5 : Hid (BoxC w5 w4.heap.size (.int .i64 A) (.int .i64 (-1)) ∧ Below w4.heap.size w4 w5) := by
                  rw [← hw5]; exact ⟨HI.out.1, HI.out.2.os, HI.out.2.tape, HI.out.2.output, HI.out.2.size, HI.out.2.block⟩
                rw [hw5]
                clear hw5 HI k1 k2 k3
                have c0 := HI5.out.1.c0
                go_wp2_with fail
                refine (put_any A j true _ (by omega) (by omega)).mono ?_
                rintro e w6 ⟨rfl, b6⟩
                have x6 := HI5.out.1.below b6
                have hb6 := HI5.out.2.trans (b6.mono HI5.out.2.size)
                have c1 := x6.z0 0
                have c2 := x6.c0
                have HG : Hid (BoxC (w6.setCell ⟨w4.heap.size, 0, none⟩ (.int .i64 (putZ A j true))) w4.heap.size (.int .i64 (putZ A j true)) (.int .i64 (-1)) ∧ Below w4.heap.size w4 (w6.setCell ⟨w4.heap.size, 0, none⟩ (.int .i64 (putZ A j true)))) :=
                  ⟨x6.s0 _, hb6.setCell (p := ⟨w4.heap.size, 0, none⟩) (Nat.le_refl _) _⟩
                clear x6 hb6 b6 HI5 c0
                go_wp2
                go_roundw
                case rel => exact ⟨j + 1, by go_num, by omega, by rw [HS.out]; exact HG⟩
                case measure => simp [intOf]; omega
              · have he' : (y == x) = false := by simpa using he
                have HS : Hid (attrZ (pS l1 inn x) (j + 1) = A) := by have := HS.out; rw [Bool.true_and, if_neg he] at this; exact this
                clear he
                go_wp2_with fail
                go_quiet (fail)
                obtain ⟨w5, hw5⟩ : ∃ W, wr.drewN nq = W := ⟨_, rfl⟩
                have HI5 : Hid (BoxC w5 w4.heap.size (.int .i64 A) (.int .i64 (-1)) ∧ Below w4.heap.size w4 w5) := by
                  rw [← hw5]; exact ⟨HI.out.1, HI.out.2.os, HI.out.2.tape, HI.out.2.output, HI.out.2.size, HI.out.2.block⟩
                rw [hw5]
                clear hw5 HI k1 k2 k3
                go_wp2
                go_roundw
                case rel => exact ⟨j + 1, by go_num, by omega, by rw [HS.out]; exact HI5⟩
                case measure => simp [intOf]; omega
            · obtain rfl : j = n := by omega
              obtain ⟨A, hA⟩ : ∃ A, attrZ (pS l1 inn x) j = A := ⟨_, rfl⟩
              unfold Hid at HI
              rw [hA] at HI
              have HAA := Lib.hid hA
              have HI := Lib.hid HI
              clear hA
              obtain ⟨w5, rfl⟩ : ∃ w', w' = wr := ⟨_, rfl⟩
              have K0 : constZ C x 0 = -1 := rfl
              go_wp2
              go_loopw [16] (fun kk wr => ∃ m : Nat, kk = .int .i64 m ∧ m ≤ nc ∧ Hid (BoxC wr w4.heap.size (.int .i64 A) (.int .i64 (constZ C x m)) ∧ Below w4.heap.size w4 wr)) (fun kk _ => nc - (intOf kk).toNat)
              case atStart => exact ⟨0, rfl, Nat.zero_le _, HI.out⟩
              case round =>
                clear HI
                obtain ⟨m, rfl, hm, HI⟩ := hrel
                by_cases hmn : m < nc
                · have p2 : (m : Int) < (nc : Int) := by omega
                  have q0 : (0 : Int) ≤ (m : Int) := by omega
                  have q1 : (0 : Int) ≤ (k : Int) := by omega
                  have hml : m < C.length := by rw [HNC.out]; exact hmn
                  obtain ⟨y, hy⟩ : ∃ y, C[m]? = some y := ⟨_, List.getElem?_eq_getElem hml⟩
                  obtain ⟨b1, o1, rfl, hc1⟩ := C4.out.at (by omega)
                  have kv : w4.cell? ⟨b1, o1 + m, none⟩ = some (.int .i64 y) := hc1 m _ (by simp [ints, hy])
                  have hbv : b1 < w4.heap.size := World.block_lt_of_cell? w4 _ kv
                  have k1 : wr.cell? ⟨b1, o1 + m, none⟩ = some (.int .i64 y) := (HI.out.2.cell (p := ⟨b1, o1 + m, none⟩) hbv).trans kv
                  have k2 : wr.cell? ⟨bL, oL + k, none⟩ = some (.int .i64 x) := (HI.out.2.cell (p := ⟨bL, oL + k, none⟩) hbL).trans kL
                  have hyd : C.getD m 0 = y := by rw [List.getD_eq_getElem?_getD, hy]; rfl
                  have HS : Hid (constZ C x (m + 1) = if y = x then (m : Int) else constZ C x m) := by
                    unfold Hid; rw [constZ, hyd]
                  obtain ⟨Q, hQ⟩ : ∃ Q, constZ C x m = Q := ⟨_, rfl⟩
                  unfold Hid at HS HI
                  rw [hQ] at HS HI
                  have HS := Lib.hid HS; have HI := Lib.hid HI
                  clear hy hc1 kv hyd hQ
                  by_cases he : y = x
                  · have he' : (y == x) = true := by simp [he]
                    have HS : Hid (constZ C x (m + 1) = m) := by have := HS.out; rw [if_pos he] at this; exact this
                    clear he
                    go_wp2_with fail
                    go_quiet (fail)
                    obtain ⟨w6, hw6⟩ : ∃ W, wr.drewN nq = W := ⟨_, rfl⟩
                    have HI6 : Hid (BoxC w6 w4.heap.size (.int .i64 A) (.int .i64 Q) ∧ Below w4.heap.size w4 w6) := by
                      rw [← hw6]; exact ⟨HI.out.1, HI.out.2.os, HI.out.2.tape, HI.out.2.output, HI.out.2.size, HI.out.2.block⟩
                    rw [hw6]
                    clear hw6 HI k1 k2
                    have c1 := HI6.out.1.z0 1
                    have c2 := HI6.out.1.c1
                    have HG : Hid (BoxC (w6.setCell ⟨w4.heap.size, 1, none⟩ (.int .i64 m)) w4.heap.size (.int .i64 A) (.int .i64 m) ∧ Below w4.heap.size w4 (w6.setCell ⟨w4.heap.size, 1, none⟩ (.int .i64 m))) :=
                      ⟨HI6.out.1.s1 _, HI6.out.2.setCell (p := ⟨w4.heap.size, 1, none⟩) (Nat.le_refl _) _⟩
                    clear HI6
                    go_wp2
                    go_roundw
                    case rel => exact ⟨m + 1, by go_num, by omega, by rw [HS.out]; exact HG⟩
                    case measure => simp [intOf]; omega
                  · have he' : (y == x) = false := by simp [he]
                    have HS : Hid (constZ C x (m + 1) = Q) := by have := HS.out; rw [if_neg he] at this; exact this
                    clear he
                    go_wp2_with fail
                    go_quiet (fail)
                    obtain ⟨w6, hw6⟩ : ∃ W, wr.drewN nq = W := ⟨_, rfl⟩
                    have HI6 : Hid (BoxC w6 w4.heap.size (.int .i64 A) (.int .i64 Q) ∧ Below w4.heap.size w4 w6) := by
                      rw [← hw6]; exact ⟨HI.out.1, HI.out.2.os, HI.out.2.tape, HI.out.2.output, HI.out.2.size, HI.out.2.block⟩
                    rw [hw6]
                    clear hw6 HI k1 k2
                    go_wp2
                    go_roundw
                    case rel => exact ⟨m + 1, by go_num, by omega, by rw [HS.out]; exact HI6⟩
                    case measure => simp [intOf]; omega
                · obtain rfl : m = nc := by omega
                  have HCZ : Hid (clsZ (pS l1 inn) j C x = (A, constZ C x m)) := by unfold Hid clsZ; rw [HAA.out, HNC.out]
                  obtain ⟨Q, hQ⟩ : ∃ Q, constZ C x m = Q := ⟨_, rfl⟩
                  unfold Hid at HCZ HI
                  rw [hQ] at HCZ HI
                  have HCZ := Lib.hid HCZ; have HI := Lib.hid HI
                  clear hQ HAA K0 R4 C4 I4
                  go_upto_if 104 with fail
                  go_cut [] (fun wx => Hid (Z3 w3 w2.heap.size w4.heap.size ((L.take k).map (clsZ (pS l1 inn) j C)) (gapsZ (kap r) (L.take (k + 1))) A Q wx))
                  case first =>
                    by_cases hk0 : k = 0
                    · subst hk0
                      rw [show ((0 : Nat) : Int) = 0 from rfl]
                      have HZ : Hid (Z3 w3 w2.heap.size w4.heap.size ((L.take 0).map (clsZ (pS l1 inn) j C)) (gapsZ (kap r) (L.take (0 + 1))) A Q wr) := by
                        unfold Hid
                        rw [gapsZ_one]
                        exact Z3.still HA.out HI.out.2 (by have := HA.out.grown.size; omega) HI.out.1
                      go_wp2_with fail
                      go_meet
                      exact HZ
                    · obtain ⟨k', hk'⟩ : ∃ k', k = k' + 1 := ⟨k - 1, by omega⟩
                      have p3 : (0 : Int) < (k : Int) := by omega
                      have ha : k' < L.length := by omega
                      obtain ⟨a, ha⟩ : ∃ a, L[k']? = some a := ⟨_, List.getElem?_eq_getElem ha⟩
                      have hbl := HI.out.2
                      have k1 : wr.cell? ⟨bL, oL + k', none⟩ = some (.int .i64 a) := (hbl.cell (p := ⟨bL, oL + k', none⟩) hbL).trans (HCL.out k' _ (by simp [ints, ha]))
                      have k2 : wr.cell? ⟨bL, oL + k, none⟩ = some (.int .i64 x) := (hbl.cell (p := ⟨bL, oL + k, none⟩) hbL).trans kL
                      obtain ⟨u1, u2, bx, zo⟩ := HA.out.ex
                      have hw4 := HA.out.grown.size
                      have hb9 : w2.heap.size < w4.heap.size := by omega
                      have BX : Hid (Box2 wr w2.heap.size u1 u2) := (hbl.block _ hb9).trans bx
                      have ZO := Lib.hid (zo.below hbl)
                      have c9 := BX.out.c1
                      have f9 := BX.out.z0 1
                      have hbda := hi1 a (mem_sortS _ _ (by rw [HhL.out]; exact List.mem_of_getElem? ha))
                      have hbdx := hi1 x (mem_sortS _ _ (by rw [HhL.out]; exact List.mem_of_getElem? HX.out))
                      have hkp := kap_le r
                      obtain ⟨kr, hkr⟩ : ∃ q, kap r = q := ⟨_, rfl⟩
                      have HKR := Lib.hid hkr
                      rw [hkr] at hkp
                      have p6 : (0 : Int) ≤ (k : Int) := by omega
                      have HK' := Lib.hid hk'
                      have HAH := Lib.hid ha
                      have hbL2 : bL < w2.heap.size := by
                        obtain ⟨b', o', e, hc⟩ := (Reads.of_owns OL.out).at (by omega)
                        cases e
                        exact World.block_lt_of_cell? w2 _ (hc k (.int .i64 x) (by simp [ints, HX.out]))
                      have hwsz := hbl.size
                      have hbLw : bL < wr.heap.size := by omega
                      obtain ⟨gl, hgl⟩ : ∃ gl, gapsZ (kap r) (L.take k) = gl := ⟨_, rfl⟩
                      have HGL := Lib.hid hgl
                      have hgln : gl.length ≤ 62 := by rw [← hgl, gapsZ_len, List.length_take]; omega
                      unfold Hid at ZO
                      rw [hgl] at ZO
                      have ZO := Lib.hid ZO
                      have HB5 : Hid (Below wr.heap.size wr (wr.drew.alloc (.cells #[.int .i64 (gapZ a x kr)] 3))) := ((Below.refl _ wr).drew).alloc (Nat.le_refl _) _
                      have BX5 : Hid (Box2 (wr.drew.alloc (.cells #[.int .i64 (gapZ a x kr)] 3)) w2.heap.size u1 u2) := Box2.alloc (W := wr.drew) BX.out _
                      have hbL3 : bL < w3.heap.size := by omega
                      have hbne : bL ≠ w2.heap.size := by omega
                      have hM63 : gl.length + 1 ≤ maxLen := by unfold maxLen; omega
                      have hMb : (gl.length + 1) * 8 ≤ 140737488355328 := by omega
                      have HBS : w3.heap.size ≤ (wr.drew.alloc (.cells #[.int .i64 (gapZ a x kr)] 3)).heap.size := by
                        have := HB5.out.size; omega
                      have HSZ : (wr.drew.alloc (.cells #[.int .i64 (gapZ a x kr)] 3)).heap.size = wr.heap.size + 1 := World.size_alloc _ _
                      have hkm : kr ≤ 2097151 := by omega
                      have hb9w : w2.heap.size < wr.heap.size := by omega
                      have hga := hbda.1; have hgx := hbdx.2
                      have HRB : Hid (u2.ownBlock ≠ some w4.heap.size) := fun e => by have := (zo.2.lt _ e).2; omega
                      have HRC : Hid (u1.ownBlock ≠ some w4.heap.size) := fun e => by have := (zo.1.lt _ e).2; omega
                      have HROW : Hid (u2.ownBlock ≠ some w2.heap.size) := BX.out.row ZO.out.2 (by decide)
                      have HBL := Lib.hid hbl
                      obtain ⟨i0, hi0, hz0, hz1, hz2⟩ := info_parts info_int'
                      have HIP := Lib.hid (And.intro hi0 (And.intro hz0 (And.intro hz1 hz2)))
                      clear hi0 hz0 hz1 hz2 ha hbl bx zo hkr hk' hk0 hgl
                      have a1 : (0 : Int) ≤ (k : Int) - 1 := by omega
                      have a2 : (k : Int) - 1 < (nl : Int) := by omega
                      have a3 : ((k : Int) - 1).toNat = k' := by have := HK'.out; omega
                      have a5 : (1 : Int) ≤ (k : Int) := by omega
                      have wr1 : IntKind.i64.wrap ((k : Int) - 1) = (k : Int) - 1 := IntWalk.i64_in _ ⟨by omega, by omega⟩
                      go_wp2_with fail
                      rw [ldGap2_is]
                      go_region_held3 (fun w' => w'.cell? ⟨bL, oL + k', none⟩ = some (.int .i64 a) ∧ w'.cell? ⟨bL, oL + k, none⟩ = some (.int .i64 x))
                        (first | go_keep | (refine ⟨?_, ?_⟩ <;> (first | assumption | go_keep | (rw [World.cell?_setCell_other _ _ _ _ (by first | (simp; done) | (simp; exact hbne))]; assumption))))
                        (first
                          | (go_simp; go_at_call 15; refine (rcap_any _ _).mono ?_; rintro e w' ⟨rfl, rfl⟩; rw [HKR.out])
                          | (go_simp; go_at_call 40; refine (rgap_any a x kr _ hga hgx hkm).mono ?_; rintro e w' ⟨rfl, rfl⟩)
                          | (refine step_append_lies _ (by rfl) _ _ _ (by rfl) w3.heap.size 3 i0 _ 1 8 Try.underlying39 HIP.out.1 HIP.out.2.1 HIP.out.2.2.1 HIP.out.2.2.2 rfl Nat.one_pos u2 gl.length (ints gl) (by rfl) (World.ownsRow.alloc (World.ownsRow.drew ZO.out.2) _) ⟨wr.heap.size, 0, none⟩ 1 1 [.int .i64 (gapZ a x kr)] (by rfl) (by rfl) (World.news_of_block (cs := #[.int .i64 (gapZ a x kr)]) (t := 3) (fr := (0, 0)) (by show (wr.alloc _).heap[wr.heap.size]? = _; exact World.alloc_heap_new wr _)) (by simp [Value.oneCell']) Nat.one_pos hM63 hMb HBS (wr.heap.size + 1) HSZ ?_
                             intro g3 cap3 w6 hown3 hgrow hat hlt3
                             have hB6 := below_of_grown hgrow (fun k hk => (ZO.out.2.lt k hk).1) HBS
                             have q1 := (hB6.cell (p := ⟨bL, oL + k', none⟩) hbL3).trans ((HB5.out.cell (p := ⟨bL, oL + k', none⟩) hbLw).trans k1)
                             have q2 := (hB6.cell (p := ⟨bL, oL + k, none⟩) hbL3).trans ((HB5.out.cell (p := ⟨bL, oL + k, none⟩) hbLw).trans k2)
                             have bx6 := BX5.out.kept hgrow HROW.out
                             have e9 := bx6.c1
                             have e8 := bx6.c0
                             have f9' := bx6.z0 1
                             clear hB6))
                      all_goals
                        have hB6 := below_of_grown hgrow (fun k hk => (ZO.out.2.lt k hk).1) HBS
                        have bc6 : BoxC w6 w4.heap.size (.int .i64 A) (.int .i64 Q) := (hgrow.block _ (Nat.lt_of_lt_of_le HI.out.1.lt HB5.out.size) (fun e => HRB.out e.symm)).trans ((HB5.out.block _ HI.out.1.lt).trans HI.out.1)
                        have oc6 := owns_beside (World.ownsRow.alloc (World.ownsRow.drew ZO.out.2) (.cells #[.int .i64 (gapZ a x kr)] 3)) (World.ownsRow.alloc (World.ownsRow.drew ZO.out.1) (.cells #[.int .i64 (gapZ a x kr)] 3)) (by decide) hgrow
                        have hg6 := grown_then_below HA.out.grown (((HBL.out.mono HA.out.grown.size).trans (HB5.out.mono (Nat.le_trans HA.out.grown.size HBL.out.size))).trans hB6)
                        have HZ : Hid (Z3 w3 w2.heap.size w4.heap.size ((L.take k).map (clsZ (pS l1 inn) j C)) (gapsZ (kap r) (L.take (k + 1))) A Q (w6.setCell ⟨w2.heap.size, 1, none⟩ (.slice (some ⟨g3, 0, none⟩) (gl.length + 1) cap3))) := by
                          refine Z3.put (gl := gl ++ [gapZ a x kr]) bx6 (by simpa [ints] using hown3) (by simp) oc6 bc6 (by omega) hg6 ?_
                          have := gapsZ_step (kap r) L k' a x HAH.out (by rw [← HK'.out]; exact HX.out)
                          rw [← HK'.out, HGL.out] at this
                          rw [HKR.out] at this ⊢
                          exact this
                        clear a1 a2 a3 a5 wr1 q1 q2 oc6 bc6 hg6 hB6 hgrow hown3 bx6
                        go_wp2_with fail
                        go_meet
                        exact HZ
                  case rest =>
                    obtain ⟨u1, u2, bx, zo⟩ := hcut.out.ex
                    have bc := hcut.out.cls
                    have HG := Lib.hid hcut.out.grown
                    have HMAP : Hid ((L.take (k + 1)).map (clsZ (pS l1 inn) j C) = (L.take k).map (clsZ (pS l1 inn) j C) ++ [(A, Q)]) := by
                      unfold Hid
                      rw [List.take_add_one, HX.out, List.map_append]
                      show _ ++ [clsZ _ _ _ _] = _
                      rw [HCZ.out]
                    obtain ⟨clk, hclk⟩ : ∃ clk, (L.take k).map (clsZ (pS l1 inn) j C) = clk := ⟨_, rfl⟩
                    obtain ⟨gk, hgk⟩ : ∃ gk, gapsZ (kap r) (L.take (k + 1)) = gk := ⟨_, rfl⟩
                    have hlk : clk.length ≤ 62 := by rw [← hclk, List.length_map, List.length_take]; omega
                    unfold Hid at HMAP
                    rw [hclk] at zo HMAP
                    rw [hgk] at zo
                    have HMAP := Lib.hid HMAP; have HGK := Lib.hid hgk
                    obtain ⟨p1', q1', hu1⟩ := owns_len zo.1
                    have c0 := bx.c0; have f0 := bx.z0 0
                    have d0 := bc.c0; have d1 := bc.c1
                    have hrow := bx.row zo.1 (by decide)
                    have hsz3 := HG.out.size
                    have HZO := Lib.hid zo; have HBX := Lib.hid bx; have HROW := Lib.hid hrow
                    have hh1 := Lib.hid hu1
                    clear hclk hgk bx zo bc hrow hcut HA HI HX HCL HCZ H23 HB3 Y9 Z6 R2 I2 OC OL HhC HhL hu1 hi1 kL
                    go_wp2_with (at_builtin; refine app1 wc #[.int .i64 A, .int .i64 Q] rfl _ _ 43 rfl w3.heap.size 63 (.agg #[.int .i64 0, .int .i64 0]) 2 16 Try.underlying43 info_class rfl (by decide) (by decide) u1 clk.length _ rfl (by exact HZO.out.1) rfl (by simp) rfl (by simp [Value.oneCell']) (by omega) hsz3 ?_; intro v' w8 hown' hg' hb'; obtain ⟨ad8, cap8, rfl⟩ := owns_len hown'; have bx8 := HBX.out.kept hg' HROW.out; have e8 := bx8.c0; have f8 := bx8.z0 0; have HG8 := Lib.hid hg'; have HO8 := Lib.hid hown'; have HBX8 := Lib.hid bx8; clear hown' hg' hb' bx8)
                    have HGR : Hid (w3.grownBy w8 (some w2.heap.size)) := grown_then_below HG.out (below_of_grown HG8.out (fun k e => (HZO.out.1.lt k e).1) hsz3)
                    have og8 := owns_beside HZO.out.1 HZO.out.2 (by decide) HG8.out
                    have HZB : Hid (ZB w3 w2.heap.size ((L.take (k + 1)).map (clsZ (pS l1 inn) j C)) (gapsZ (kap r) (L.take (k + 1))) (w8.setCell ⟨w2.heap.size, 0, none⟩ (.slice ad8 (clk.length + 1) cap8))) := by
                      unfold Hid
                      rw [HGK.out]
                      exact ZB.put (cl := clk ++ [(A, Q)]) HBX8.out (by simpa [cellsP] using HO8.out) (by simp) og8 HGR.out HMAP.out
                    clear og8
                    go_roundw
                    case rel =>
                      first | exact ⟨k + 1, by go_num, by omega, HZB⟩ | ((repeat apply Exists.intro); exact ⟨⟨k + 1, by go_num, by omega, HZB⟩, rfl⟩)
                    case measure => simp [intOf]; omega
        · obtain rfl : k = nl := by omega
          have hLt : L.take k = L := by rw [← HNL.out, List.take_length]
          obtain ⟨u1, u2, bx, zo⟩ := HA.out.ex
          rw [hLt] at zo
          have z6 := Z6.out.kept HA.out.grown (by simp; omega)
          have HBE := Lib.hid (HB3.out.grown HA.out.grown (by omega) (fun k e => by cases e; omega))
          obtain ⟨p1, q1, hu1⟩ := owns_len zo.1
          obtain ⟨p2, q2, hu2⟩ := owns_len zo.2
          obtain ⟨N1, hN1⟩ : ∃ N, (L.map (clsZ (pS l1 inn) n C)).length = N := ⟨_, rfl⟩
          obtain ⟨N2, hN2⟩ : ∃ N, (gapsZ (kap r) L).length = N := ⟨_, rfl⟩
          rw [hN1] at hu1; rw [hN2] at hu2
          subst hu1; subst hu2
          have c0 := bx.c0; have c1 := bx.c1
          have e0 := z6.c0; have e1 := z6.c1; have f0 := z6.z0 0; have f1 := z6.z0 1
          have hl4 := z6.lt
          have HZO := Lib.hid (zo.mono (show w.heap.size ≤ w3.heap.size by omega)); have HZ6 := Lib.hid z6
          clear hLt bx zo z6 HA hN1 hN2
          go_wp2
          have v1 := (HZ6.out.s0 (.slice p1 N1 q1)).s1 (.slice p2 N2 q2)
          have g0 := v1.c0; have g1 := v1.c1
          refine bodyPost_ret (v := .agg #[.slice p1 N1 q1, .slice p2 N2 q2]) (by simp [results, Try.results17, go_sem, g0, g1]) rfl ?_
          refine ⟨_, _, rfl, ?_, (HBE.out.setCell (p := ⟨w.heap.size, 0, none⟩) (Nat.le_refl _) _).setCell (p := ⟨w.heap.size, 1, none⟩) (Nat.le_refl _) _⟩
          exact ⟨ownsRow_setCell_other (ownsRow_setCell_other HZO.out.1 (HZ6.out.row HZO.out.1 (by decide)) _) (HZ6.out.row HZO.out.1 (by decide)) _, ownsRow_setCell_other (ownsRow_setCell_other HZO.out.2 (HZ6.out.row HZO.out.2 (by decide)) _) (HZ6.out.row HZO.out.2 (by decide)) _⟩


end Go.Proofs.Ytjmggphnngffjaa
