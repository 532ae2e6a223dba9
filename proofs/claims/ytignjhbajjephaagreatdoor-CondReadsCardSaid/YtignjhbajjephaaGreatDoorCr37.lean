/- Contract of the token reader's one. -/
import Derived.Test.YtignjhbajjephaaGreatDoorCr36

namespace Go.Proofs.YtignjhbajjephaaGreatDoor
open Go.RowKit

theorem PosAt.took {w w' : World} {B b k : Nat} {s : ByteArray} {L : List Rn} {lv : Value} {i : Nat} {ov : Value} {T : List Tk} {t : TypeId} {line col : Int} (h : PosAt w k t line col) (ht : Took w w' B b s L lv i ov T) (hkb : k ≠ b) (hne : t ≠ 43) : PosAt w' k t line col :=
  ht.kept k _ h (fun e => hkb (Option.some.inj e)) (fun c fz e => by simp at e; exact hne e.2.1)

theorem MaxCell.drewN {w : World} (h : MaxCell w) (n : Nat) : MaxCell (w.drewN n) := by
  obtain ⟨m, hm⟩ := h; exact ⟨m, by simpa using hm⟩
theorem PosAt.drewN {w : World} {k : Nat} {t : TypeId} {line col : Int} (h : PosAt w k t line col) (n : Nat) : PosAt (w.drewN n) k t line col := h
theorem le_drewN {B : Nat} {w : World} (h : B ≤ w.heap.size) (n : Nat) : B ≤ (w.drewN n).heap.size := by simpa using h

set_option maxHeartbeats 4000000 in
theorem one_word {w : World} {B b : Nat} {s : ByteArray} {L : List Rn} {lv : Value} {i : Nat} {ov : Value} {T : List Tk} (h : Rd w B b s L lv i ov T) (hm : MaxCell w) (hB0 : 0 < B) (hB : B ≤ w.heap.size) (hO : RnOk s L) (hT : T.length ≤ 5000) (hs : s.size ≤ 4294967200) (hi : i < L.length) (hway : blankB (rAt L i) = false → rAt L i ≠ 35 → letterB (rAt L i) = true) :
    Calls Tryz.prog 13 #[.pointer (some ⟨b, 0, none⟩)] w (Stepped w B b s L lv (oneT s L i T)) := by
  have hL := hO.len
  obtain ⟨x, hx⟩ : ∃ x, L[i]? = some x := ⟨_, List.getElem?_eq_getElem hi⟩
  obtain ⟨c, hc⟩ : ∃ c, rAt L i = c := ⟨_, rfl⟩
  have hbl := h.lt
  have HR := Lib.hid h
  have HC := Lib.hid (show rAt L (i + 0) = c from hc)
  have HM := Lib.hid hm
  have HX := Lib.hid hx
  have hS : oneT s L i T = if blankB c then ⟨0, 0, 0, i + 1, T⟩ else if c = 35 then restT L i T else capT L i (tokT s L i T) := by unfold oneT; rw [hc]
  have HS := Lib.hid hS
  obtain ⟨c0, c1, c2, c3, f2, f3⟩ := h.facts
  obtain ⟨g, cap, rfl, _, _, _, d3, d4⟩ := h.rune hx
  have hgl := World.block_lt_of_cell? w _ d3
  have hiz : (i : Int) < (L.length : Int) := by omega
  clear h hc hm hx hS
  go_enter Tryz.func13, Tryz.ntmps13
  go_wp2_with fail
  refine (rune_q (HR.out.keep ((Below.refl _ _).alloc (Nat.le_refl _) _)) 0 c HC.out hL (by omega) (by omega)).mono ?_
  rintro e w1 ⟨rfl, m, rfl⟩
  have HK1 := Lib.hid ((Took.of_rd (HR.out.keep ((Below.refl _ _).alloc (Nat.le_refl _) (.cells #[.int .i64 0, .int .i64 0, .int .i64 0] 28)))).after ((Below.refl _ _).alloc (Nat.le_refl _) _) hB)
  have HF1 := Lib.hid (FltAt.new w 0 0 0)
  go_wp2_with fail
  refine (blankB_any c _).mono ?_
  rintro e w' ⟨rfl, rfl⟩
  cases hbl1 : blankB c
  · have hS : oneT s L i T = if c = 35 then restT L i T else capT L i (tokT s L i T) := by rw [HS.out, hbl1]; rfl
    have HS1 := Lib.hid hS
    have HBL := Lib.hid (show blankB (rAt L i) = false by rw [show rAt L i = c from HC.out]; exact hbl1)
    clear hS hbl1
    by_cases h35 : c = 35
    · subst h35
      obtain ⟨⟨er, line, col, j, T2⟩, hr⟩ : ∃ r, restT L i T = r := ⟨_, rfl⟩
      have HRR := Lib.hid ((show oneT s L i T = restT L i T from HS1.out).trans hr)
      have HRR2 := Lib.hid hr
      clear hr
      go_wp2_with fail
      refine (rest_any (HK1.out.rd.drewN m) (by simp; omega) hL (by omega)).mono ?_
      rw [HRR2.out]
      rintro e w3 ⟨rfl, ov3, hk⟩
      have hfr := (HF1.out.drewN m).took hk (by omega)
      have HK := Lib.hid (hk.after (below_drewN ((Below.refl _ w).alloc (Nat.le_refl _) _) m) hB)
      clear hk
      obtain ⟨a0, a1, a2, a3, a4, a5⟩ := hfr.facts
      have HFR := Lib.hid hfr
      clear hfr
      by_cases her : er = 0
      · subst her
        have HK6 := Lib.hid (HK.out.stored (Nat.le_refl _) hbl hB HFR.out 0 0 0)
        obtain ⟨e0, e1, e2, _, _, _⟩ := (HFR.out.stored 0 0 0).facts
        rw [faultV_ok]
        go_wp2
        exact bodyPost_ret (v := .agg #[.int .i64 0, .int .i64 0, .int .i64 0]) (by simp [results, Tryz.results13, go_sem, e0, e1, e2]) rfl ⟨by rw [HRR.out]; rfl, ⟨_, by rw [HRR.out]; exact HK6.out⟩⟩
      · have HK6 := Lib.hid (HK.out.stored (Nat.le_refl _) hbl hB HFR.out er line col)
        obtain ⟨e0, e1, e2, _, _, _⟩ := (HFR.out.stored er line col).facts
        rw [faultV_no her]
        have HER := Lib.hid her
        clear her
        go_wp2
        exact bodyPost_ret (v := .agg #[.int .i64 er, .int .i64 line, .int .i64 col]) (by simp [results, Tryz.results13, go_sem, e0, e1, e2]) rfl ⟨by rw [HRR.out]; show _ = Ending.returned (faultV er line col); rw [faultV_no HER.out], ⟨_, by rw [HRR.out]; exact HK6.out⟩⟩
    · have h35' : (c == 35) = false := beq_eq_false_iff_ne.2 h35
      go_wp2_with fail
      go_region_held3 (fun w' => w'.cell? ⟨b, 1, none⟩ = some (.slice (some ⟨g, 0, none⟩) L.length cap) ∧ w'.cell? ⟨b, 2, none⟩ = some (.int .i64 i) ∧ w'.cell? ⟨g, i * 5 + 3, none⟩ = some (.int .i64 x.line) ∧ w'.cell? ⟨g, i * 5 + 4, none⟩ = some (.int .i64 x.col))
        (first | go_keep)
        (first | fail)
      have HB3 := Lib.hid ((below_drewN ((Below.refl _ w).alloc (Nat.le_refl _) (.cells #[.int .i64 0, .int .i64 0, .int .i64 0] 28)) (m + 1)).alloc (by simp) (.cells #[.int .i64 x.line, .int .i64 x.col] 26))
      have HF3 := Lib.hid ((HF1.out.drewN (m + 1)).alloc (.cells #[.int .i64 x.line, .int .i64 x.col] 26))
      have HR3 := Lib.hid (HR.out.keep HB3.out)
      have HM3 := Lib.hid (HM.out.below HB3.out (by omega))
      have hp3 : PosAt (((w.alloc (.cells #[.int .i64 0, .int .i64 0, .int .i64 0] 28)).drewN (m + 1)).alloc (.cells #[.int .i64 x.line, .int .i64 x.col] 26)) (w.heap.size + 1) 26 x.line x.col := by
        have := heap_alloc_new ((w.alloc (.cells #[.int .i64 0, .int .i64 0, .int .i64 0] 28)).drewN (m + 1)) (.cells #[.int .i64 x.line, .int .i64 x.col] 26)
        rw [show ((w.alloc (.cells #[.int .i64 0, .int .i64 0, .int .i64 0] 28)).drewN (m + 1)).heap.size = w.heap.size + 1 by simp] at this
        exact this
      have HP3 := Lib.hid hp3
      have hB3 : B ≤ (((w.alloc (.cells #[.int .i64 0, .int .i64 0, .int .i64 0] 28)).drewN (m + 1)).alloc (.cells #[.int .i64 x.line, .int .i64 x.col] 26)).heap.size := by have := HB3.out.size; omega
      have HBB := Lib.hid hB3
      clear hp3 hB3
      go_wp2_with fail
      refine (letterB_any c _).mono ?_
      rintro e w' ⟨rfl, rfl⟩
      cases hlet : letterB c
      · have h9 := hway HBL.out (fun e2 => h35 ((show rAt L i = c from HC.out).symm.trans e2))
        rw [show rAt L i = c from HC.out, hlet] at h9
        cases h9
      · obtain ⟨⟨y, hy⟩, hn1, hasc⟩ := word_pre hO hi (by rw [show rAt L i = c from HC.out]; exact hlet)
        have hg := hO.le _ _ x y (by omega) HX.out hy
        have HW := Lib.hid (And.intro hy (And.intro hasc hg))
        have HLET := Lib.hid hlet
        clear hlet hy hasc hg
        obtain ⟨⟨er, line, col, j, T2⟩, hr⟩ : ∃ r, wordT s L i T = r := ⟨_, rfl⟩
        have HRR := Lib.hid ((show oneT s L i T = capT L i (wordT s L i T) by rw [HS1.out, if_neg h35]; unfold tokT; rw [show rAt L i = c from HC.out, HLET.out]; rfl).trans (by rw [hr]))
        have HRR2 := Lib.hid hr
        clear hr
        go_wp2_with fail
        refine (word_any HR3.out HM3.out hB0 HBB.out hL (by omega) hs x y HX.out HW.out.1 hn1 HW.out.2.2.1 HW.out.2.2.2 HW.out.2.1).mono ?_
        rw [HRR2.out]
        rintro e w4 ⟨rfl, ov4, hk⟩
        have hfr := HF3.out.took hk (by omega)
        have hfp := HP3.out.took hk (by omega) (by decide)
        have HK := Lib.hid (hk.after HB3.out hB)
        clear hk
        obtain ⟨a0, a1, a2, a3, a4, a5⟩ := hfr.facts
        obtain ⟨p0, p1, p2, p3⟩ := hfp.facts
        have HFR := Lib.hid hfr
        have hfl := hfr.lt
        have hpl := hfp.lt
        have hbl4 := HK.out.rd.lt
        obtain ⟨ad4, cap4, hov4⟩ := owns_len HK.out.rd.out
        obtain ⟨_, _, _, q3, _, _⟩ := HK.out.rd.facts
        rw [hov4] at q3
        clear hfr hfp hov4
        by_cases her : er = 0
        · subst her
          rw [faultV_ok]
          by_cases hcap : 4096 < T2.length
          · have hcz : (4096 : Int) < (T2.length : Int) := by omega
            have HE : Hid (oneT s L i T = ⟨3, x.line, x.col, j, T2⟩) := by
              unfold Hid; rw [HRR.out]; unfold capT; rw [if_neg (by simp), if_pos hcap, (at_some HX.out).2.2.2.1, (at_some HX.out).2.2.2.2]
            have HK6 := Lib.hid ((HK.out.stored (Nat.le_refl _) hbl hB HFR.out 3 x.line x.col).then ((Below.refl _ _).alloc (Nat.le_refl _) (.cells #[.int .i64 0, .int .i64 0, .int .i64 0] 28)) hB)
            obtain ⟨e0, e1, e2, _, _, _⟩ := ((HFR.out.stored 3 x.line x.col).alloc (.cells #[.int .i64 0, .int .i64 0, .int .i64 0] 28)).facts
            clear hcap
            go_wp2
            exact bodyPost_ret (v := .agg #[.int .i64 3, .int .i64 x.line, .int .i64 x.col]) (by simp [results, Tryz.results13, go_sem, e0, e1, e2]) rfl ⟨by rw [HE.out]; rfl, ⟨_, by rw [HE.out]; exact HK6.out⟩⟩
          · have hcz : (T2.length : Int) ≤ 4096 := by omega
            have HE : Hid (oneT s L i T = ⟨0, line, col, j, T2⟩) := by
              unfold Hid; rw [HRR.out]; unfold capT; rw [if_neg (by simp), if_neg hcap]
            have HK6 := Lib.hid ((HK.out.stored (Nat.le_refl _) hbl hB HFR.out 0 0 0).then ((Below.refl _ _).alloc (Nat.le_refl _) (.cells #[.int .i64 0, .int .i64 0, .int .i64 0] 28)) hB)
            obtain ⟨e0, e1, e2, _, _, _⟩ := ((HFR.out.stored 0 0 0).alloc (.cells #[.int .i64 0, .int .i64 0, .int .i64 0] 28)).facts
            clear hcap
            go_wp2
            exact bodyPost_ret (v := .agg #[.int .i64 0, .int .i64 0, .int .i64 0]) (by simp [results, Tryz.results13, go_sem, e0, e1, e2]) rfl ⟨by rw [HE.out]; rfl, ⟨_, by rw [HE.out]; exact HK6.out⟩⟩
        · rw [faultV_no her]
          have HE : Hid (oneT s L i T = ⟨er, line, col, j, T2⟩) := by
            unfold Hid; rw [HRR.out]; unfold capT; rw [if_pos her]
          have HK6 := Lib.hid ((HK.out.stored (Nat.le_refl _) hbl hB HFR.out er line col).then ((Below.refl _ _).alloc (Nat.le_refl _) (.cells #[.int .i64 er, .int .i64 line, .int .i64 col] 28)) hB)
          obtain ⟨e0, e1, e2, _, _, _⟩ := ((HFR.out.stored er line col).alloc (.cells #[.int .i64 er, .int .i64 line, .int .i64 col] 28)).facts
          have HER := Lib.hid her
          have hern : (er == 0) = false := beq_eq_false_iff_ne.2 her
          clear her
          go_wp2
          exact bodyPost_ret (v := .agg #[.int .i64 er, .int .i64 line, .int .i64 col]) (by simp [results, Tryz.results13, go_sem, e0, e1, e2]) rfl ⟨by rw [HE.out]; show _ = Ending.returned (faultV er line col); rw [faultV_no HER.out], ⟨_, by rw [HE.out]; exact HK6.out⟩⟩
  · have HS1 : Hid (oneT s L i T = ⟨0, 0, 0, i + 1, T⟩) := by unfold Hid; rw [HS.out, hbl1]; rfl
    clear hbl1
    have HK6 := Lib.hid (((HK1.out.drewN m).moved (i + 1)).stored (Nat.le_refl _) hbl hB ((HF1.out.drewN m).setOther (g := b) (j := 2) (by omega) (.int .i64 (i + 1 : Nat))) 0 0 0)
    obtain ⟨a0, a1, a2, a3, a4, a5⟩ := ((HF1.out.drewN m).setOther (g := b) (j := 2) (by omega) (.int .i64 (i + 1 : Nat))).facts
    obtain ⟨e0, e1, e2, _, _, _⟩ := (((HF1.out.drewN m).setOther (g := b) (j := 2) (by omega) (.int .i64 (i + 1 : Nat))).stored 0 0 0).facts
    go_wp2
    exact bodyPost_ret (v := .agg #[.int .i64 0, .int .i64 0, .int .i64 0]) (by simp [results, Tryz.results13, go_sem]) rfl ⟨by rw [HS1.out]; rfl, ⟨_, by rw [HS1.out]; exact HK6.out⟩⟩

end Go.Proofs.YtignjhbajjephaaGreatDoor
