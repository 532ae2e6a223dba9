/- Contracts of the token reader's small methods: rune, fault, row. -/
import Derived.Test.YtignjhbajjephaaGreatDoorCr27
import Derived.Test.YtignjhbajjephaaGreatDoorCr01
import Derived.Deep.RegionHeld3
import Derived.Deep.AppendLies

namespace Go.Proofs.YtignjhbajjephaaGreatDoor
open Go.RowKit

/-- the reader: its struct in block b, its runes L, its place i, its tokens T, all of them made from block B on -/
structure Rd (w : World) (B b : Nat) (s : ByteArray) (L : List Rn) (lv : Value) (i : Nat) (ov : Value) (T : List Tk) : Prop where
  blk : w.heap[b]? = some (.cells #[.string s, lv, .int .i64 i, ov] 49 (0, 0))
  low : B ≤ b
  run : w.ownsRow B 73 5 lv L.length (rnFlat .i32 L)
  out : w.ownsRow B 43 5 ov T.length (tkFlat T)

theorem Rd.lt {w : World} {B b : Nat} {s : ByteArray} {L : List Rn} {lv : Value} {i : Nat} {ov : Value} {T : List Tk} (h : Rd w B b s L lv i ov T) : b < w.heap.size := (Array.getElem?_eq_some_iff.1 h.blk).1

theorem Rd.facts {w : World} {B b : Nat} {s : ByteArray} {L : List Rn} {lv : Value} {i : Nat} {ov : Value} {T : List Tk} (h : Rd w B b s L lv i ov T) :
    w.cell? ⟨b, 0, none⟩ = some (.string s) ∧ w.cell? ⟨b, 1, none⟩ = some lv ∧ w.cell? ⟨b, 2, none⟩ = some (.int .i64 i) ∧ w.cell? ⟨b, 3, none⟩ = some ov ∧ w.frozen? ⟨b, 2, none⟩ = false ∧ w.frozen? ⟨b, 3, none⟩ = false := by
  have hb := h.blk
  refine ⟨?_, ?_, ?_, ?_, ?_, ?_⟩
  · simp [World.cell?, hb]
  · simp [World.cell?, hb]
  · simp [World.cell?, hb]
  · simp [World.cell?, hb]
  · simp [World.frozen?, hb]
  · simp [World.frozen?, hb]

theorem Rd.keep {w w' : World} {B b : Nat} {s : ByteArray} {L : List Rn} {lv : Value} {i : Nat} {ov : Value} {T : List Tk} (h : Rd w B b s L lv i ov T) (hb : Below w.heap.size w w') : Rd w' B b s L lv i ov T :=
  ⟨(hb.block b h.lt).trans h.blk, h.low, owns_below h.run hb, owns_below h.out hb⟩

/-- the runes' own cells -/
theorem Rd.rune {w : World} {B b : Nat} {s : ByteArray} {L : List Rn} {lv : Value} {i : Nat} {ov : Value} {T : List Tk} (h : Rd w B b s L lv i ov T) {j : Nat} {x : Rn} (hj : L[j]? = some x) :
    ∃ g cap, lv = .slice (some ⟨g, 0, none⟩) L.length cap ∧ w.cell? ⟨g, j * 5, none⟩ = some (.int .i32 x.r) ∧ w.cell? ⟨g, j * 5 + 1, none⟩ = some (.int .i64 x.fr) ∧ w.cell? ⟨g, j * 5 + 2, none⟩ = some (.int .i64 x.to) ∧
      w.cell? ⟨g, j * 5 + 3, none⟩ = some (.int .i64 x.line) ∧ w.cell? ⟨g, j * 5 + 4, none⟩ = some (.int .i64 x.col) := by
  have hjl := (List.getElem?_eq_some_iff.1 hj).1
  have hr := h.run
  obtain ⟨g, cap, rfl, hg, hgs⟩ := owns_shape hr (by omega)
  exact ⟨g, cap, rfl, (World.ownsRow.cellAt hr (j * 5) (by omega)).trans (rnFlat_get .i32 _ j 0 x hj (by omega)), (World.ownsRow.cellAt hr (j * 5 + 1) (by omega)).trans (rnFlat_get .i32 _ j 1 x hj (by omega)),
    (World.ownsRow.cellAt hr (j * 5 + 2) (by omega)).trans (rnFlat_get .i32 _ j 2 x hj (by omega)), (World.ownsRow.cellAt hr (j * 5 + 3) (by omega)).trans (rnFlat_get .i32 _ j 3 x hj (by omega)), (World.ownsRow.cellAt hr (j * 5 + 4) (by omega)).trans (rnFlat_get .i32 _ j 4 x hj (by omega))⟩

set_option maxHeartbeats 1000000 in
theorem rune_any {w : World} {B b : Nat} {s : ByteArray} {L : List Rn} {lv : Value} {i : Nat} {ov : Value} {T : List Tk} (h : Rd w B b s L lv i ov T) (n : Nat) (hL : L.length ≤ 16385) (hi : i ≤ 16385) (hn : n ≤ 16385) :
    Calls Tryz.prog 23 #[.pointer (some ⟨b, 0, none⟩), .int .i64 n] w fun e w' => e = .returned (.int .i32 (rAt L (i + n))) ∧ Below w.heap.size w w' := by
  obtain ⟨c0, c1, c2, c3, f2, f3⟩ := h.facts
  by_cases hlt : i + n < L.length
  · obtain ⟨x, hx⟩ : ∃ x, L[i + n]? = some x := ⟨_, List.getElem?_eq_getElem hlt⟩
    have HA := Lib.hid (rAt_some hx)
    obtain ⟨g, cap, rfl, d0, d1, d2, d3, d4⟩ := h.rune hx
    have hz1 : (i : Int) + n < (L.length : Int) := by omega
    have hz0 : (0 : Int) ≤ (i : Int) + n := by omega
    have ht : ((i : Int) + (n : Int)).toNat = i + n := by omega
    clear h hx d1 d2 d3 d4 c0 c3 f2 f3
    go_enter Tryz.func23, Tryz.ntmps23
    go_wp2
    go_quiet (fail)
    go_wp2
    go_quiet (fail)
    go_wp2
    go_ret
    exact ⟨by rw [HA.out]; rfl, below_drewN (below_drewN (Below.refl _ _) _) _⟩
  · have HA := Lib.hid (rAt_none (L := L) (i := i + n) (by omega))
    obtain ⟨ad, cap, rfl⟩ := owns_len h.run
    have hz1 : ¬ (i : Int) + n < (L.length : Int) := by omega
    clear h c0 c3 f2 f3
    go_enter Tryz.func23, Tryz.ntmps23
    go_wp2
    go_quiet (fail)
    go_wp2
    go_ret
    exact ⟨by rw [HA.out]; rfl, below_drewN (Below.refl _ _) _⟩

set_option maxHeartbeats 400000 in
theorem smallB_any (c : Int) (w : World) : Calls Tryz.prog 55 #[.int .i32 c] w fun e w' => e = .returned (.bool (smallB c)) ∧ w = w' := by
  have H : Hid (smallB c = decide (97 ≤ c ∧ c ≤ 122)) := rfl
  rcases (show c < 97 ∨ (97 ≤ c ∧ c ≤ 122) ∨ 122 < c by omega) with h | ⟨h, h'⟩ | h
  all_goals
    go_enter Tryz.func55, Tryz.ntmps55
    go_wp2
    go_ret
    exact ⟨ret_bool (by rw [H.out]; simp; try omega), rfl⟩

set_option maxHeartbeats 400000 in
theorem greatB_any (c : Int) (w : World) : Calls Tryz.prog 56 #[.int .i32 c] w fun e w' => e = .returned (.bool (greatB c)) ∧ w = w' := by
  have H : Hid (greatB c = decide (65 ≤ c ∧ c ≤ 90)) := rfl
  rcases (show c < 65 ∨ (65 ≤ c ∧ c ≤ 90) ∨ 90 < c by omega) with h | ⟨h, h'⟩ | h
  all_goals
    go_enter Tryz.func56, Tryz.ntmps56
    go_wp2
    go_ret
    exact ⟨ret_bool (by rw [H.out]; simp; try omega), rfl⟩

set_option maxHeartbeats 400000 in
theorem digitB_any (c : Int) (w : World) : Calls Tryz.prog 29 #[.int .i32 c] w fun e w' => e = .returned (.bool (digitB c)) ∧ w = w' := by
  have H : Hid (digitB c = decide (48 ≤ c ∧ c ≤ 57)) := rfl
  rcases (show c < 48 ∨ (48 ≤ c ∧ c ≤ 57) ∨ 57 < c by omega) with h | ⟨h, h'⟩ | h
  all_goals
    go_enter Tryz.func29, Tryz.ntmps29
    go_wp2
    go_ret
    exact ⟨ret_bool (by rw [H.out]; simp; try omega), rfl⟩

set_option maxHeartbeats 1000000 in
theorem blankB_any (c : Int) (w : World) : Calls Tryz.prog 24 #[.int .i32 c] w fun e w' => e = .returned (.bool (blankB c)) ∧ w = w' := by
  rcases (show c = 32 ∨ c = 9 ∨ c = 10 ∨ c = 13 ∨ (c ≠ 32 ∧ c ≠ 9 ∧ c ≠ 10 ∧ c ≠ 13) by omega) with rfl | rfl | rfl | rfl | ⟨h1, h2, h3, h4⟩
  · have H : Hid (blankB 32 = true) := rfl
    go_enter Tryz.func24, Tryz.ntmps24
    go_wp2
    go_ret
    exact ⟨ret_bool H.out.symm, rfl⟩
  · have H : Hid (blankB 9 = true) := rfl
    go_enter Tryz.func24, Tryz.ntmps24
    go_wp2
    go_ret
    exact ⟨ret_bool H.out.symm, rfl⟩
  · have H : Hid (blankB 10 = true) := rfl
    go_enter Tryz.func24, Tryz.ntmps24
    go_wp2
    go_ret
    exact ⟨ret_bool H.out.symm, rfl⟩
  · have H : Hid (blankB 13 = true) := rfl
    go_enter Tryz.func24, Tryz.ntmps24
    go_wp2
    go_ret
    exact ⟨ret_bool H.out.symm, rfl⟩
  · have H : Hid (blankB c = false) := by unfold Hid blankB; simp [h1, h2, h3, h4]
    have e1 : (c == 32) = false := by simp [h1]
    have e2 : (c == 9) = false := by simp [h2]
    have e3 : (c == 10) = false := by simp [h3]
    have e4 : (c == 13) = false := by simp [h4]
    clear h1 h2 h3 h4
    go_enter Tryz.func24, Tryz.ntmps24
    go_wp2
    go_ret
    exact ⟨ret_bool H.out.symm, rfl⟩

set_option maxHeartbeats 1000000 in
theorem letterB_any (c : Int) (w : World) : Calls Tryz.prog 27 #[.int .i32 c] w fun e w' => e = .returned (.bool (letterB c)) ∧ w = w' := by
  have H : Hid (letterB c = (smallB c || greatB c)) := rfl
  cases h1 : smallB c
  · have H1 := Lib.hid h1; clear h1
    go_enter Tryz.func27, Tryz.ntmps27
    go_wp2_with fail
    refine (smallB_any c _).mono ?_
    rintro e w' ⟨rfl, rfl⟩
    rw [H1.out]
    go_wp2_with fail
    refine (greatB_any c _).mono ?_
    rintro e w' ⟨rfl, rfl⟩
    go_wp2
    go_ret
    exact ⟨ret_bool (by rw [H.out, H1.out]; simp), rfl⟩
  · have H1 := Lib.hid h1; clear h1
    go_enter Tryz.func27, Tryz.ntmps27
    go_wp2_with fail
    refine (smallB_any c _).mono ?_
    rintro e w' ⟨rfl, rfl⟩
    rw [H1.out]
    go_wp2
    go_ret
    exact ⟨ret_bool (by rw [H.out, H1.out]; simp), rfl⟩

set_option maxHeartbeats 1000000 in
theorem innerB_any (c : Int) (w : World) : Calls Tryz.prog 58 #[.int .i32 c] w fun e w' => e = .returned (.bool (innerB c)) ∧ w = w' := by
  have H : Hid (innerB c = (letterB c || (digitB c || decide (c = 95)))) := rfl
  cases h1 : letterB c
  · have H1 := Lib.hid h1; clear h1
    cases h2 : digitB c
    · have H2 := Lib.hid h2; clear h2
      go_enter Tryz.func58, Tryz.ntmps58
      go_wp2_with fail
      refine (letterB_any c _).mono ?_
      rintro e w' ⟨rfl, rfl⟩
      rw [H1.out]
      go_wp2_with fail
      refine (digitB_any c _).mono ?_
      rintro e w' ⟨rfl, rfl⟩
      rw [H2.out]
      go_wp2
      go_ret
      exact ⟨ret_bool (by rw [H.out, H1.out, H2.out]; simp; rfl), rfl⟩
    · have H2 := Lib.hid h2; clear h2
      go_enter Tryz.func58, Tryz.ntmps58
      go_wp2_with fail
      refine (letterB_any c _).mono ?_
      rintro e w' ⟨rfl, rfl⟩
      rw [H1.out]
      go_wp2_with fail
      refine (digitB_any c _).mono ?_
      rintro e w' ⟨rfl, rfl⟩
      rw [H2.out]
      go_wp2
      go_ret
      exact ⟨ret_bool (by rw [H.out, H1.out, H2.out]; simp), rfl⟩
  · have H1 := Lib.hid h1; clear h1
    go_enter Tryz.func58, Tryz.ntmps58
    go_wp2_with fail
    refine (letterB_any c _).mono ?_
    rintro e w' ⟨rfl, rfl⟩
    rw [H1.out]
    go_wp2
    go_ret
    exact ⟨ret_bool (by rw [H.out, H1.out]; simp), rfl⟩

set_option maxHeartbeats 1000000 in
theorem row_innerB {w : World} {B b : Nat} {s : ByteArray} {L : List Rn} {lv : Value} {i : Nat} {ov : Value} {T : List Tk} (h : Rd w B b s L lv i ov T) (n : Nat) (hL : L.length ≤ 16385) (hi : i ≤ L.length) (hn : n ≤ 1) :
    Calls Tryz.prog 57 #[.pointer (some ⟨b, 0, none⟩), .int .i64 n, .func (.func 58) #[] #[]] w fun e w' => e = .returned (.int .i64 (rowE innerB L (i + n) - i : Nat)) ∧ Below w.heap.size w w' := by
  have HR := Lib.hid h
  clear h
  go_enter Tryz.func57, Tryz.ntmps57
  go_wp2
  go_loopw [1] (fun m wr => ∃ (k : Nat), k ≤ 16385 ∧ k ≤ L.length - i + 1 ∧ m = .int .i64 k ∧ Below w.heap.size w wr ∧ Hid (rowE innerB L (i + n) = rowE innerB L (i + k))) (fun m _ => L.length - i + 1 - (intOf m).toNat)
  case atStart => exact ⟨n, by omega, by omega, rfl, Below.refl _ _, rfl⟩
  case round =>
    obtain ⟨k, hk, hk2, rfl, hb, HE⟩ := hrel
    have HR2 := Lib.hid (HR.out.keep hb)
    have HB := Lib.hid hb
    clear hb
    cases hq : innerB (rAt L (i + k))
    · have HQ := Lib.hid hq
      have HF : Hid (rowE innerB L (i + n) - i = k) := by unfold Hid; rw [HE.out, rowE_no _ _ _ hq]; omega
      clear hq
      go_wp2_with fail
      refine (rune_any HR2.out k hL (by omega) hk).mono ?_
      rintro e w1 ⟨rfl, hb1⟩
      have HB1 := Lib.hid (HB.out.trans (hb1.mono HB.out.size)); clear hb1
      go_wp2_with fail
      refine (innerB_any _ _).mono ?_
      rintro e w' ⟨rfl, rfl⟩
      rw [HQ.out]
      go_wp2
      go_ret
      exact ⟨ret_int (by rw [HF.out]), HB1.out⟩
    · have HQ := Lib.hid hq
      have hlt : i + k < L.length := by
        by_cases hc : i + k < L.length
        · exact hc
        · rw [rAt_none (by omega)] at hq; exact absurd hq (by decide)
      have HE2 : Hid (rowE innerB L (i + n) = rowE innerB L (i + (k + 1))) := by unfold Hid; rw [HE.out, rowE_yes _ (by decide) _ _ hq]; rfl
      clear hq
      go_wp2_with fail
      refine (rune_any HR2.out k hL (by omega) hk).mono ?_
      rintro e w1 ⟨rfl, hb1⟩
      have HB1 := Lib.hid (HB.out.trans (hb1.mono HB.out.size)); clear hb1
      go_wp2_with fail
      refine (innerB_any _ _).mono ?_
      rintro e w' ⟨rfl, rfl⟩
      rw [HQ.out]
      go_wp2
      go_roundw
      case rel => exact ⟨k + 1, by omega, by omega, by go_num, HB1.out, HE2⟩
      case measure => simp [intOf]; omega

set_option maxHeartbeats 1000000 in
theorem row_digitB {w : World} {B b : Nat} {s : ByteArray} {L : List Rn} {lv : Value} {i : Nat} {ov : Value} {T : List Tk} (h : Rd w B b s L lv i ov T) (n : Nat) (hL : L.length ≤ 16385) (hi : i ≤ L.length) (hn : n ≤ 1) :
    Calls Tryz.prog 57 #[.pointer (some ⟨b, 0, none⟩), .int .i64 n, .func (.func 29) #[] #[]] w fun e w' => e = .returned (.int .i64 (rowE digitB L (i + n) - i : Nat)) ∧ Below w.heap.size w w' := by
  have HR := Lib.hid h
  clear h
  go_enter Tryz.func57, Tryz.ntmps57
  go_wp2
  go_loopw [1] (fun m wr => ∃ (k : Nat), k ≤ 16385 ∧ k ≤ L.length - i + 1 ∧ m = .int .i64 k ∧ Below w.heap.size w wr ∧ Hid (rowE digitB L (i + n) = rowE digitB L (i + k))) (fun m _ => L.length - i + 1 - (intOf m).toNat)
  case atStart => exact ⟨n, by omega, by omega, rfl, Below.refl _ _, rfl⟩
  case round =>
    obtain ⟨k, hk, hk2, rfl, hb, HE⟩ := hrel
    have HR2 := Lib.hid (HR.out.keep hb)
    have HB := Lib.hid hb
    clear hb
    cases hq : digitB (rAt L (i + k))
    · have HQ := Lib.hid hq
      have HF : Hid (rowE digitB L (i + n) - i = k) := by unfold Hid; rw [HE.out, rowE_no _ _ _ hq]; omega
      clear hq
      go_wp2_with fail
      refine (rune_any HR2.out k hL (by omega) hk).mono ?_
      rintro e w1 ⟨rfl, hb1⟩
      have HB1 := Lib.hid (HB.out.trans (hb1.mono HB.out.size)); clear hb1
      go_wp2_with fail
      refine (digitB_any _ _).mono ?_
      rintro e w' ⟨rfl, rfl⟩
      rw [HQ.out]
      go_wp2
      go_ret
      exact ⟨ret_int (by rw [HF.out]), HB1.out⟩
    · have HQ := Lib.hid hq
      have hlt : i + k < L.length := by
        by_cases hc : i + k < L.length
        · exact hc
        · rw [rAt_none (by omega)] at hq; exact absurd hq (by decide)
      have HE2 : Hid (rowE digitB L (i + n) = rowE digitB L (i + (k + 1))) := by unfold Hid; rw [HE.out, rowE_yes _ (by decide) _ _ hq]; rfl
      clear hq
      go_wp2_with fail
      refine (rune_any HR2.out k hL (by omega) hk).mono ?_
      rintro e w1 ⟨rfl, hb1⟩
      have HB1 := Lib.hid (HB.out.trans (hb1.mono HB.out.size)); clear hb1
      go_wp2_with fail
      refine (digitB_any _ _).mono ?_
      rintro e w' ⟨rfl, rfl⟩
      rw [HQ.out]
      go_wp2
      go_roundw
      case rel => exact ⟨k + 1, by omega, by omega, by go_num, HB1.out, HE2⟩
      case measure => simp [intOf]; omega

set_option maxHeartbeats 1000000 in
theorem fault_any {w : World} {B b : Nat} {s : ByteArray} {L : List Rn} {lv : Value} {i : Nat} {ov : Value} {T : List Tk} (h : Rd w B b s L lv i ov T) (er : Int) (x : Rn) (hx : L[i]? = some x) (_hL : L.length ≤ 16385) :
    Calls Tryz.prog 51 #[.pointer (some ⟨b, 0, none⟩), .int .i64 er] w fun e w' => e = .returned (.agg #[.int .i64 er, .int .i64 x.line, .int .i64 x.col]) ∧ Below w.heap.size w w' := by
  have hi := (List.getElem?_eq_some_iff.1 hx).1
  obtain ⟨c0, c1, c2, c3, f2, f3⟩ := h.facts
  obtain ⟨g, cap, rfl, d0, d1, d2, d3, d4⟩ := h.rune hx
  have hbl := h.lt
  have hgl := World.block_lt_of_cell? w _ d0
  have hiz : (i : Int) < (L.length : Int) := by omega
  clear h hx d0 d1 d2 c0 c3 f2 f3
  go_enter Tryz.func51, Tryz.ntmps51
  go_wp2
  go_region_held3 (fun w' => w'.cell? ⟨b, 1, none⟩ = some (.slice (some ⟨g, 0, none⟩) L.length cap) ∧ w'.cell? ⟨b, 2, none⟩ = some (.int .i64 i) ∧ w'.cell? ⟨g, i * 5 + 3, none⟩ = some (.int .i64 x.line) ∧ w'.cell? ⟨g, i * 5 + 4, none⟩ = some (.int .i64 x.col))
    (first | go_keep)
    (first | fail)
  go_wp2
  exact bodyPost_ret (v := .agg #[.int .i64 er, .int .i64 x.line, .int .i64 x.col]) (by simp [results, Tryz.results51, go_sem]) rfl ⟨rfl, ((Below.refl _ _).alloc (Nat.le_refl _) _).drew⟩

end Go.Proofs.YtignjhbajjephaaGreatDoor
