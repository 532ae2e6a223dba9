/- Contract of the token reader's one: a sign. Contract of the token reader's one: a number. -/
import Derived.Test.YthhjepgcbfmfeaaGreatDoorSb07

namespace Go.Proofs.YthhjepgcbfmfeaaGreatDoor
open Go.RowKit

set_option maxHeartbeats 4000000 in
theorem one_sign1 {w : World} {B b : Nat} {s : ByteArray} {L : List Rn} {lv : Value} {i : Nat} {ov : Value} {T : List Tk} (h : Rd w B b s L lv i ov T) (hm : MaxCell w) (_hB0 : 2 < B) (hB : B ≤ w.heap.size) (hO : RnOk s L) (hT : T.length ≤ 5000) (_hs : s.size ≤ 4294967200) (hi : i < L.length) (hnb : blankB (rAt L i) = false) (hn35 : rAt L i ≠ 35) (hnl : letterB (rAt L i) = false) (hdig : digitB (rAt L i) = false) (h45 : rAt L i = 45) (hd1 : digitB (rAt L (i + 1)) = false) :
    Calls Tryz.prog 24 #[.pointer (some ⟨b, 0, none⟩)] w (Stepped w B b s L lv (oneT s L i T)) := by
  have hL := hO.len
  obtain ⟨x, hx⟩ : ∃ x, L[i]? = some x := ⟨_, List.getElem?_eq_getElem hi⟩
  obtain ⟨c, hc⟩ : ∃ c, rAt L i = c := ⟨_, rfl⟩
  have hbl := h.lt
  have HR := Lib.hid h
  have HC := Lib.hid (show rAt L (i + 0) = c from hc)
  have HM := Lib.hid hm
  have HX := Lib.hid hx
  have hS : oneT s L i T = if blankB c then ⟨0, 0, 0, i + 1, T⟩ else if c = 35 then restT L i T else capT L i (tokT s L i T) := by unfold oneT; rw [hc]
  have HS := Lib.hid hS
  have hisn : isNum L i = false := by unfold isNum; rw [hdig, h45, hd1]; rfl
  have HN := Lib.hid hisn
  have HG := Lib.hid (fun (j : Nat) (y : Rn) (hij : i ≤ j) (hy : L[j]? = some y) => hO.le i j x y hij hx hy)
  clear hisn
  have HD := Lib.hid (show digitB (rAt L i) = false from hdig)
  clear hdig
  obtain ⟨d, hd⟩ : ∃ d, rAt L (i + 1) = d := ⟨_, rfl⟩
  rw [hd] at hd1
  have HD1 := Lib.hid hd
  have HD2 := Lib.hid hd1
  clear hd hd1
  have H45 := Lib.hid h45
  clear h45
  obtain ⟨c0, c1, c2, c3, f2, f3⟩ := h.facts
  obtain ⟨g, cap, rfl, _, _, _, d3, d4⟩ := h.rune hx
  have hgl := World.block_lt_of_cell? w _ d3
  have hiz : (i : Int) < (L.length : Int) := by omega
  clear h hc hm hx hS
  go_enter Tryz.func24, Tryz.ntmps24
  go_wp2_with fail
  refine (rune_q (HR.out.keep ((Below.refl _ _).alloc (Nat.le_refl _) _)) 0 c HC.out hL (by omega) (by omega)).mono ?_
  rintro e w1 ⟨rfl, m, rfl⟩
  have HK1 := Lib.hid ((Took.of_rd (HR.out.keep ((Below.refl _ _).alloc (Nat.le_refl _) (.cells #[.int .i64 0, .int .i64 0, .int .i64 0] 31)))).after ((Below.refl _ _).alloc (Nat.le_refl _) _) hB)
  have HF1 := Lib.hid (FltAt.new w 0 0 0)
  have HS1 := Lib.hid (show oneT s L i T = capT L i (tokT s L i T) by unfold oneT; rw [hnb, if_neg hn35]; rfl)
  rw [show rAt L i = c from HC.out] at hnb hn35 hnl
  have h35 := hn35
  have HLET := Lib.hid hnl
  have HBL := Lib.hid hnb
  clear hnb hn35 hnl
  go_wp2_with fail
  refine (blankB_any c _).mono ?_
  rintro e w' ⟨rfl, rfl⟩
  rw [HBL.out]
  have h35' : (c == 35) = false := beq_eq_false_iff_ne.2 h35
  go_wp2_with fail
  go_region_held3 (fun w' => w'.cell? ⟨b, 1, none⟩ = some (.slice (some ⟨g, 0, none⟩) L.length cap) ∧ w'.cell? ⟨b, 2, none⟩ = some (.int .i64 i) ∧ w'.cell? ⟨g, i * 5 + 3, none⟩ = some (.int .i64 x.line) ∧ w'.cell? ⟨g, i * 5 + 4, none⟩ = some (.int .i64 x.col))
    (first | go_keep)
    (first | fail)
  have HB3 := Lib.hid ((Go.below_drewN ((Below.refl _ w).alloc (Nat.le_refl _) (.cells #[.int .i64 0, .int .i64 0, .int .i64 0] 31)) (m + 1)).alloc (by simp) (.cells #[.int .i64 x.line, .int .i64 x.col] 29))
  have HF3 := Lib.hid ((HF1.out.drewN (m + 1)).alloc (.cells #[.int .i64 x.line, .int .i64 x.col] 29))
  have HR3 := Lib.hid (HR.out.keep HB3.out)
  have HM3 := Lib.hid (HM.out.below HB3.out (by omega))
  have hp3 : PosAt (((w.alloc (.cells #[.int .i64 0, .int .i64 0, .int .i64 0] 31)).drewN (m + 1)).alloc (.cells #[.int .i64 x.line, .int .i64 x.col] 29)) (w.heap.size + 1) 29 x.line x.col := by
    have := heap_alloc_new ((w.alloc (.cells #[.int .i64 0, .int .i64 0, .int .i64 0] 31)).drewN (m + 1)) (.cells #[.int .i64 x.line, .int .i64 x.col] 29)
    rw [show ((w.alloc (.cells #[.int .i64 0, .int .i64 0, .int .i64 0] 31)).drewN (m + 1)).heap.size = w.heap.size + 1 by simp] at this
    exact this
  have HP3 := Lib.hid hp3
  have hB3 : B ≤ (((w.alloc (.cells #[.int .i64 0, .int .i64 0, .int .i64 0] 31)).drewN (m + 1)).alloc (.cells #[.int .i64 x.line, .int .i64 x.col] 29)).heap.size := by have := HB3.out.size; omega
  have HBB := Lib.hid hB3
  clear hp3 hB3
  go_wp2_with fail
  replace HD := Lib.hid ((congrArg digitB (show rAt L i = c from HC.out)).symm.trans HD.out)
  obtain rfl : c = 45 := (show rAt L i = c from HC.out).symm.trans H45.out
  refine (letterB_any 45 _).mono ?_
  rintro e w' ⟨rfl, rfl⟩
  rw [HLET.out]
  go_wp2_with fail
  refine (digitB_any 45 _).mono ?_
  rintro e w' ⟨rfl, rfl⟩
  rw [HD.out]
  go_wp2_with fail
  refine (rune_q HR3.out 1 d HD1.out hL (by omega) (by omega)).mono ?_
  rintro e w' ⟨rfl, q, rfl⟩
  replace HB3 := Lib.hid (Go.below_drewN HB3.out q)
  replace HF3 := Lib.hid (HF3.out.drewN q)
  replace HR3 := Lib.hid (HR3.out.drewN q)
  replace HM3 := Lib.hid (HM3.out.drewN q)
  replace HP3 := Lib.hid (HP3.out.drewN q)
  replace HBB := Lib.hid (le_drewN HBB.out q)
  go_wp2_with fail
  refine (digitB_any d _).mono ?_
  rintro e w' ⟨rfl, rfl⟩
  rw [HD2.out]
  obtain ⟨⟨er, line, col, j, T2⟩, hr⟩ : ∃ r, signT s L i T = r := ⟨_, rfl⟩
  have HRR := Lib.hid ((show oneT s L i T = capT L i (signT s L i T) by rw [HS1.out]; unfold tokT; rw [show rAt L i = 45 from HC.out, HLET.out, HN.out]; rfl).trans (by rw [hr]))
  have HRR2 := Lib.hid hr
  clear hr
  go_wp2_with fail
  refine (sign_any HR3.out HM3.out HBB.out hL (by omega) x HX.out HG.out).mono ?_
  rw [HRR2.out]
  rintro e w4 ⟨rfl, ov4, hk⟩
  have hfr := HF3.out.took hk (by omega)
  have hfp := HP3.out.took hk (by omega) (by decide)
  have HK := Lib.hid (hk.after HB3.out hB)
  clear hk
  obtain ⟨a0, a1, a2, a3, a4, a5⟩ := hfr.facts
  obtain ⟨p0, p1, p2, p3⟩ := hfp.facts
  have HFR := Lib.hid hfr
  have hfl := hfr.lt
  have hpl := hfp.lt
  have hbl4 := HK.out.rd.lt
  obtain ⟨ad4, cap4, hov4⟩ := owns_len HK.out.rd.out
  obtain ⟨_, _, _, q3, _, _⟩ := HK.out.rd.facts
  rw [hov4] at q3
  clear hfr hfp hov4
  by_cases her : er = 0
  · subst her
    rw [faultV_ok]
    by_cases hcap : 4096 < T2.length
    · have hcz : (4096 : Int) < (T2.length : Int) := by omega
      have HE : Hid (oneT s L i T = ⟨3, x.line, x.col, j, T2⟩) := by
        unfold Hid; rw [HRR.out]; unfold capT; rw [if_neg (by simp), if_pos hcap, (at_some HX.out).2.2.2.1, (at_some HX.out).2.2.2.2]
      have HK6 := Lib.hid ((HK.out.stored (Nat.le_refl _) hbl hB HFR.out 3 x.line x.col).then ((Below.refl _ _).alloc (Nat.le_refl _) (.cells #[.int .i64 0, .int .i64 0, .int .i64 0] 31)) hB)
      obtain ⟨e0, e1, e2, _, _, _⟩ := ((HFR.out.stored 3 x.line x.col).alloc (.cells #[.int .i64 0, .int .i64 0, .int .i64 0] 31)).facts
      clear hcap
      go_wp2
      exact bodyPost_ret (v := .agg #[.int .i64 3, .int .i64 x.line, .int .i64 x.col]) (by simp [results, Tryz.results24, go_sem, e0, e1, e2]) rfl ⟨by rw [HE.out]; rfl, ⟨_, by rw [HE.out]; exact HK6.out⟩⟩
    · have hcz : (T2.length : Int) ≤ 4096 := by omega
      have HE : Hid (oneT s L i T = ⟨0, line, col, j, T2⟩) := by
        unfold Hid; rw [HRR.out]; unfold capT; rw [if_neg (by simp), if_neg hcap]
      have HK6 := Lib.hid ((HK.out.stored (Nat.le_refl _) hbl hB HFR.out 0 0 0).then ((Below.refl _ _).alloc (Nat.le_refl _) (.cells #[.int .i64 0, .int .i64 0, .int .i64 0] 31)) hB)
      obtain ⟨e0, e1, e2, _, _, _⟩ := ((HFR.out.stored 0 0 0).alloc (.cells #[.int .i64 0, .int .i64 0, .int .i64 0] 31)).facts
      clear hcap
      go_wp2
      exact bodyPost_ret (v := .agg #[.int .i64 0, .int .i64 0, .int .i64 0]) (by simp [results, Tryz.results24, go_sem, e0, e1, e2]) rfl ⟨by rw [HE.out]; rfl, ⟨_, by rw [HE.out]; exact HK6.out⟩⟩
  · rw [faultV_no her]
    have HE : Hid (oneT s L i T = ⟨er, line, col, j, T2⟩) := by
      unfold Hid; rw [HRR.out]; unfold capT; rw [if_pos her]
    have HK6 := Lib.hid ((HK.out.stored (Nat.le_refl _) hbl hB HFR.out er line col).then ((Below.refl _ _).alloc (Nat.le_refl _) (.cells #[.int .i64 er, .int .i64 line, .int .i64 col] 31)) hB)
    obtain ⟨e0, e1, e2, _, _, _⟩ := ((HFR.out.stored er line col).alloc (.cells #[.int .i64 er, .int .i64 line, .int .i64 col] 31)).facts
    have HER := Lib.hid her
    have hern : (er == 0) = false := beq_eq_false_iff_ne.2 her
    clear her
    go_wp2
    exact bodyPost_ret (v := .agg #[.int .i64 er, .int .i64 line, .int .i64 col]) (by simp [results, Tryz.results24, go_sem, e0, e1, e2]) rfl ⟨by rw [HE.out]; show _ = Ending.returned (faultV er line col); rw [faultV_no HER.out], ⟨_, by rw [HE.out]; exact HK6.out⟩⟩

set_option maxHeartbeats 4000000 in
theorem one_sign2 {w : World} {B b : Nat} {s : ByteArray} {L : List Rn} {lv : Value} {i : Nat} {ov : Value} {T : List Tk} (h : Rd w B b s L lv i ov T) (hm : MaxCell w) (_hB0 : 2 < B) (hB : B ≤ w.heap.size) (hO : RnOk s L) (hT : T.length ≤ 5000) (_hs : s.size ≤ 4294967200) (hi : i < L.length) (hnb : blankB (rAt L i) = false) (hn35 : rAt L i ≠ 35) (hnl : letterB (rAt L i) = false) (hdig : digitB (rAt L i) = false) (h45 : rAt L i ≠ 45) :
    Calls Tryz.prog 24 #[.pointer (some ⟨b, 0, none⟩)] w (Stepped w B b s L lv (oneT s L i T)) := by
  have hL := hO.len
  obtain ⟨x, hx⟩ : ∃ x, L[i]? = some x := ⟨_, List.getElem?_eq_getElem hi⟩
  obtain ⟨c, hc⟩ : ∃ c, rAt L i = c := ⟨_, rfl⟩
  have hbl := h.lt
  have HR := Lib.hid h
  have HC := Lib.hid (show rAt L (i + 0) = c from hc)
  have HM := Lib.hid hm
  have HX := Lib.hid hx
  have hS : oneT s L i T = if blankB c then ⟨0, 0, 0, i + 1, T⟩ else if c = 35 then restT L i T else capT L i (tokT s L i T) := by unfold oneT; rw [hc]
  have HS := Lib.hid hS
  have hisn : isNum L i = false := by unfold isNum; rw [hdig, decide_eq_false h45]; rfl
  have HN := Lib.hid hisn
  have HG := Lib.hid (fun (j : Nat) (y : Rn) (hij : i ≤ j) (hy : L[j]? = some y) => hO.le i j x y hij hx hy)
  clear hisn
  have HD := Lib.hid (show digitB (rAt L i) = false from hdig)
  clear hdig
  have H45 := Lib.hid h45
  clear h45
  obtain ⟨c0, c1, c2, c3, f2, f3⟩ := h.facts
  obtain ⟨g, cap, rfl, _, _, _, d3, d4⟩ := h.rune hx
  have hgl := World.block_lt_of_cell? w _ d3
  have hiz : (i : Int) < (L.length : Int) := by omega
  clear h hc hm hx hS
  go_enter Tryz.func24, Tryz.ntmps24
  go_wp2_with fail
  refine (rune_q (HR.out.keep ((Below.refl _ _).alloc (Nat.le_refl _) _)) 0 c HC.out hL (by omega) (by omega)).mono ?_
  rintro e w1 ⟨rfl, m, rfl⟩
  have HK1 := Lib.hid ((Took.of_rd (HR.out.keep ((Below.refl _ _).alloc (Nat.le_refl _) (.cells #[.int .i64 0, .int .i64 0, .int .i64 0] 31)))).after ((Below.refl _ _).alloc (Nat.le_refl _) _) hB)
  have HF1 := Lib.hid (FltAt.new w 0 0 0)
  have HS1 := Lib.hid (show oneT s L i T = capT L i (tokT s L i T) by unfold oneT; rw [hnb, if_neg hn35]; rfl)
  rw [show rAt L i = c from HC.out] at hnb hn35 hnl
  have h35 := hn35
  have HLET := Lib.hid hnl
  have HBL := Lib.hid hnb
  clear hnb hn35 hnl
  go_wp2_with fail
  refine (blankB_any c _).mono ?_
  rintro e w' ⟨rfl, rfl⟩
  rw [HBL.out]
  have h35' : (c == 35) = false := beq_eq_false_iff_ne.2 h35
  go_wp2_with fail
  go_region_held3 (fun w' => w'.cell? ⟨b, 1, none⟩ = some (.slice (some ⟨g, 0, none⟩) L.length cap) ∧ w'.cell? ⟨b, 2, none⟩ = some (.int .i64 i) ∧ w'.cell? ⟨g, i * 5 + 3, none⟩ = some (.int .i64 x.line) ∧ w'.cell? ⟨g, i * 5 + 4, none⟩ = some (.int .i64 x.col))
    (first | go_keep)
    (first | fail)
  have HB3 := Lib.hid ((Go.below_drewN ((Below.refl _ w).alloc (Nat.le_refl _) (.cells #[.int .i64 0, .int .i64 0, .int .i64 0] 31)) (m + 1)).alloc (by simp) (.cells #[.int .i64 x.line, .int .i64 x.col] 29))
  have HF3 := Lib.hid ((HF1.out.drewN (m + 1)).alloc (.cells #[.int .i64 x.line, .int .i64 x.col] 29))
  have HR3 := Lib.hid (HR.out.keep HB3.out)
  have HM3 := Lib.hid (HM.out.below HB3.out (by omega))
  have hp3 : PosAt (((w.alloc (.cells #[.int .i64 0, .int .i64 0, .int .i64 0] 31)).drewN (m + 1)).alloc (.cells #[.int .i64 x.line, .int .i64 x.col] 29)) (w.heap.size + 1) 29 x.line x.col := by
    have := heap_alloc_new ((w.alloc (.cells #[.int .i64 0, .int .i64 0, .int .i64 0] 31)).drewN (m + 1)) (.cells #[.int .i64 x.line, .int .i64 x.col] 29)
    rw [show ((w.alloc (.cells #[.int .i64 0, .int .i64 0, .int .i64 0] 31)).drewN (m + 1)).heap.size = w.heap.size + 1 by simp] at this
    exact this
  have HP3 := Lib.hid hp3
  have hB3 : B ≤ (((w.alloc (.cells #[.int .i64 0, .int .i64 0, .int .i64 0] 31)).drewN (m + 1)).alloc (.cells #[.int .i64 x.line, .int .i64 x.col] 29)).heap.size := by have := HB3.out.size; omega
  have HBB := Lib.hid hB3
  clear hp3 hB3
  go_wp2_with fail
  replace HD := Lib.hid ((congrArg digitB (show rAt L i = c from HC.out)).symm.trans HD.out)
  have h45' : (c == 45) = false := beq_eq_false_iff_ne.2 (fun e => H45.out ((show rAt L i = c from HC.out).trans e))
  refine (letterB_any c _).mono ?_
  rintro e w' ⟨rfl, rfl⟩
  rw [HLET.out]
  go_wp2_with fail
  refine (digitB_any c _).mono ?_
  rintro e w' ⟨rfl, rfl⟩
  rw [HD.out]
  obtain ⟨⟨er, line, col, j, T2⟩, hr⟩ : ∃ r, signT s L i T = r := ⟨_, rfl⟩
  have HRR := Lib.hid ((show oneT s L i T = capT L i (signT s L i T) by rw [HS1.out]; unfold tokT; rw [show rAt L i = c from HC.out, HLET.out, HN.out]; rfl).trans (by rw [hr]))
  have HRR2 := Lib.hid hr
  clear hr
  go_wp2_with fail
  refine (sign_any HR3.out HM3.out HBB.out hL (by omega) x HX.out HG.out).mono ?_
  rw [HRR2.out]
  rintro e w4 ⟨rfl, ov4, hk⟩
  have hfr := HF3.out.took hk (by omega)
  have hfp := HP3.out.took hk (by omega) (by decide)
  have HK := Lib.hid (hk.after HB3.out hB)
  clear hk
  obtain ⟨a0, a1, a2, a3, a4, a5⟩ := hfr.facts
  obtain ⟨p0, p1, p2, p3⟩ := hfp.facts
  have HFR := Lib.hid hfr
  have hfl := hfr.lt
  have hpl := hfp.lt
  have hbl4 := HK.out.rd.lt
  obtain ⟨ad4, cap4, hov4⟩ := owns_len HK.out.rd.out
  obtain ⟨_, _, _, q3, _, _⟩ := HK.out.rd.facts
  rw [hov4] at q3
  clear hfr hfp hov4
  by_cases her : er = 0
  · subst her
    rw [faultV_ok]
    by_cases hcap : 4096 < T2.length
    · have hcz : (4096 : Int) < (T2.length : Int) := by omega
      have HE : Hid (oneT s L i T = ⟨3, x.line, x.col, j, T2⟩) := by
        unfold Hid; rw [HRR.out]; unfold capT; rw [if_neg (by simp), if_pos hcap, (at_some HX.out).2.2.2.1, (at_some HX.out).2.2.2.2]
      have HK6 := Lib.hid ((HK.out.stored (Nat.le_refl _) hbl hB HFR.out 3 x.line x.col).then ((Below.refl _ _).alloc (Nat.le_refl _) (.cells #[.int .i64 0, .int .i64 0, .int .i64 0] 31)) hB)
      obtain ⟨e0, e1, e2, _, _, _⟩ := ((HFR.out.stored 3 x.line x.col).alloc (.cells #[.int .i64 0, .int .i64 0, .int .i64 0] 31)).facts
      clear hcap
      go_wp2
      exact bodyPost_ret (v := .agg #[.int .i64 3, .int .i64 x.line, .int .i64 x.col]) (by simp [results, Tryz.results24, go_sem, e0, e1, e2]) rfl ⟨by rw [HE.out]; rfl, ⟨_, by rw [HE.out]; exact HK6.out⟩⟩
    · have hcz : (T2.length : Int) ≤ 4096 := by omega
      have HE : Hid (oneT s L i T = ⟨0, line, col, j, T2⟩) := by
        unfold Hid; rw [HRR.out]; unfold capT; rw [if_neg (by simp), if_neg hcap]
      have HK6 := Lib.hid ((HK.out.stored (Nat.le_refl _) hbl hB HFR.out 0 0 0).then ((Below.refl _ _).alloc (Nat.le_refl _) (.cells #[.int .i64 0, .int .i64 0, .int .i64 0] 31)) hB)
      obtain ⟨e0, e1, e2, _, _, _⟩ := ((HFR.out.stored 0 0 0).alloc (.cells #[.int .i64 0, .int .i64 0, .int .i64 0] 31)).facts
      clear hcap
      go_wp2
      exact bodyPost_ret (v := .agg #[.int .i64 0, .int .i64 0, .int .i64 0]) (by simp [results, Tryz.results24, go_sem, e0, e1, e2]) rfl ⟨by rw [HE.out]; rfl, ⟨_, by rw [HE.out]; exact HK6.out⟩⟩
  · rw [faultV_no her]
    have HE : Hid (oneT s L i T = ⟨er, line, col, j, T2⟩) := by
      unfold Hid; rw [HRR.out]; unfold capT; rw [if_pos her]
    have HK6 := Lib.hid ((HK.out.stored (Nat.le_refl _) hbl hB HFR.out er line col).then ((Below.refl _ _).alloc (Nat.le_refl _) (.cells #[.int .i64 er, .int .i64 line, .int .i64 col] 31)) hB)
    obtain ⟨e0, e1, e2, _, _, _⟩ := ((HFR.out.stored er line col).alloc (.cells #[.int .i64 er, .int .i64 line, .int .i64 col] 31)).facts
    have HER := Lib.hid her
    have hern : (er == 0) = false := beq_eq_false_iff_ne.2 her
    clear her
    go_wp2
    exact bodyPost_ret (v := .agg #[.int .i64 er, .int .i64 line, .int .i64 col]) (by simp [results, Tryz.results24, go_sem, e0, e1, e2]) rfl ⟨by rw [HE.out]; show _ = Ending.returned (faultV er line col); rw [faultV_no HER.out], ⟨_, by rw [HE.out]; exact HK6.out⟩⟩


end Go.Proofs.YthhjepgcbfmfeaaGreatDoor

namespace Go.Proofs.YthhjepgcbfmfeaaGreatDoor
open Go.RowKit

set_option maxHeartbeats 4000000 in
theorem one_num1 {w : World} {B b : Nat} {s : ByteArray} {L : List Rn} {lv : Value} {i : Nat} {ov : Value} {T : List Tk} (h : Rd w B b s L lv i ov T) (hm : MaxCell w) (_hB0 : 2 < B) (hB : B ≤ w.heap.size) (hO : RnOk s L) (hT : T.length ≤ 5000) (hs : s.size ≤ 4294967200) (hi : i < L.length) (hnb : blankB (rAt L i) = false) (hn35 : rAt L i ≠ 35) (hnl : letterB (rAt L i) = false) (hdig : digitB (rAt L i) = true) :
    Calls Tryz.prog 24 #[.pointer (some ⟨b, 0, none⟩)] w (Stepped w B b s L lv (oneT s L i T)) := by
  have hL := hO.len
  obtain ⟨x, hx⟩ : ∃ x, L[i]? = some x := ⟨_, List.getElem?_eq_getElem hi⟩
  obtain ⟨c, hc⟩ : ∃ c, rAt L i = c := ⟨_, rfl⟩
  have hbl := h.lt
  have HR := Lib.hid h
  have HC := Lib.hid (show rAt L (i + 0) = c from hc)
  have HM := Lib.hid hm
  have HX := Lib.hid hx
  have hS : oneT s L i T = if blankB c then ⟨0, 0, 0, i + 1, T⟩ else if c = 35 then restT L i T else capT L i (tokT s L i T) := by unfold oneT; rw [hc]
  have HS := Lib.hid hS
  have hisn : isNum L i = true := by unfold isNum; rw [hdig]; rfl
  obtain ⟨⟨y, hy⟩, hn1, h0, hdq⟩ := num_pre hO hi hisn
  have hg := hO.le _ _ x y (by omega) hx hy
  have HW := Lib.hid (And.intro hy (And.intro hdq hg))
  have HN := Lib.hid hisn
  clear hy hdq hg hisn
  have HD := Lib.hid (show digitB (rAt L i) = true from hdig)
  clear hdig
  obtain ⟨c0, c1, c2, c3, f2, f3⟩ := h.facts
  obtain ⟨g, cap, rfl, _, _, _, d3, d4⟩ := h.rune hx
  have hgl := World.block_lt_of_cell? w _ d3
  have hiz : (i : Int) < (L.length : Int) := by omega
  clear h hc hm hx hS
  go_enter Tryz.func24, Tryz.ntmps24
  go_wp2_with fail
  refine (rune_q (HR.out.keep ((Below.refl _ _).alloc (Nat.le_refl _) _)) 0 c HC.out hL (by omega) (by omega)).mono ?_
  rintro e w1 ⟨rfl, m, rfl⟩
  have HK1 := Lib.hid ((Took.of_rd (HR.out.keep ((Below.refl _ _).alloc (Nat.le_refl _) (.cells #[.int .i64 0, .int .i64 0, .int .i64 0] 31)))).after ((Below.refl _ _).alloc (Nat.le_refl _) _) hB)
  have HF1 := Lib.hid (FltAt.new w 0 0 0)
  have HS1 := Lib.hid (show oneT s L i T = capT L i (tokT s L i T) by unfold oneT; rw [hnb, if_neg hn35]; rfl)
  rw [show rAt L i = c from HC.out] at hnb hn35 hnl
  have h35 := hn35
  have HLET := Lib.hid hnl
  have HBL := Lib.hid hnb
  clear hnb hn35 hnl
  go_wp2_with fail
  refine (blankB_any c _).mono ?_
  rintro e w' ⟨rfl, rfl⟩
  rw [HBL.out]
  have h35' : (c == 35) = false := beq_eq_false_iff_ne.2 h35
  go_wp2_with fail
  go_region_held3 (fun w' => w'.cell? ⟨b, 1, none⟩ = some (.slice (some ⟨g, 0, none⟩) L.length cap) ∧ w'.cell? ⟨b, 2, none⟩ = some (.int .i64 i) ∧ w'.cell? ⟨g, i * 5 + 3, none⟩ = some (.int .i64 x.line) ∧ w'.cell? ⟨g, i * 5 + 4, none⟩ = some (.int .i64 x.col))
    (first | go_keep)
    (first | fail)
  have HB3 := Lib.hid ((Go.below_drewN ((Below.refl _ w).alloc (Nat.le_refl _) (.cells #[.int .i64 0, .int .i64 0, .int .i64 0] 31)) (m + 1)).alloc (by simp) (.cells #[.int .i64 x.line, .int .i64 x.col] 29))
  have HF3 := Lib.hid ((HF1.out.drewN (m + 1)).alloc (.cells #[.int .i64 x.line, .int .i64 x.col] 29))
  have HR3 := Lib.hid (HR.out.keep HB3.out)
  have HM3 := Lib.hid (HM.out.below HB3.out (by omega))
  have hp3 : PosAt (((w.alloc (.cells #[.int .i64 0, .int .i64 0, .int .i64 0] 31)).drewN (m + 1)).alloc (.cells #[.int .i64 x.line, .int .i64 x.col] 29)) (w.heap.size + 1) 29 x.line x.col := by
    have := heap_alloc_new ((w.alloc (.cells #[.int .i64 0, .int .i64 0, .int .i64 0] 31)).drewN (m + 1)) (.cells #[.int .i64 x.line, .int .i64 x.col] 29)
    rw [show ((w.alloc (.cells #[.int .i64 0, .int .i64 0, .int .i64 0] 31)).drewN (m + 1)).heap.size = w.heap.size + 1 by simp] at this
    exact this
  have HP3 := Lib.hid hp3
  have hB3 : B ≤ (((w.alloc (.cells #[.int .i64 0, .int .i64 0, .int .i64 0] 31)).drewN (m + 1)).alloc (.cells #[.int .i64 x.line, .int .i64 x.col] 29)).heap.size := by have := HB3.out.size; omega
  have HBB := Lib.hid hB3
  clear hp3 hB3
  go_wp2_with fail
  replace HD := Lib.hid ((congrArg digitB (show rAt L i = c from HC.out)).symm.trans HD.out)
  refine (letterB_any c _).mono ?_
  rintro e w' ⟨rfl, rfl⟩
  rw [HLET.out]
  go_wp2_with fail
  refine (digitB_any c _).mono ?_
  rintro e w' ⟨rfl, rfl⟩
  rw [HD.out]
  obtain ⟨⟨er, line, col, j, T2⟩, hr⟩ : ∃ r, numbT s L i T = r := ⟨_, rfl⟩
  have HRR := Lib.hid ((show oneT s L i T = capT L i (numbT s L i T) by rw [HS1.out]; unfold tokT; rw [show rAt L i = c from HC.out, HLET.out, HN.out]; rfl).trans (by rw [hr]))
  have HRR2 := Lib.hid hr
  clear hr
  go_wp2_with fail
  refine (number_any HR3.out HBB.out hL (by omega) hs x y HX.out HW.out.1 hn1 HW.out.2.2.1 HW.out.2.2.2 h0 HW.out.2.1.1 HW.out.2.1.2).mono ?_
  rw [HRR2.out]
  rintro e w4 ⟨rfl, ov4, hk⟩
  have hfr := HF3.out.took hk (by omega)
  have hfp := HP3.out.took hk (by omega) (by decide)
  have HK := Lib.hid (hk.after HB3.out hB)
  clear hk
  obtain ⟨a0, a1, a2, a3, a4, a5⟩ := hfr.facts
  obtain ⟨p0, p1, p2, p3⟩ := hfp.facts
  have HFR := Lib.hid hfr
  have hfl := hfr.lt
  have hpl := hfp.lt
  have hbl4 := HK.out.rd.lt
  obtain ⟨ad4, cap4, hov4⟩ := owns_len HK.out.rd.out
  obtain ⟨_, _, _, q3, _, _⟩ := HK.out.rd.facts
  rw [hov4] at q3
  clear hfr hfp hov4
  by_cases her : er = 0
  · subst her
    rw [faultV_ok]
    by_cases hcap : 4096 < T2.length
    · have hcz : (4096 : Int) < (T2.length : Int) := by omega
      have HE : Hid (oneT s L i T = ⟨3, x.line, x.col, j, T2⟩) := by
        unfold Hid; rw [HRR.out]; unfold capT; rw [if_neg (by simp), if_pos hcap, (at_some HX.out).2.2.2.1, (at_some HX.out).2.2.2.2]
      have HK6 := Lib.hid ((HK.out.stored (Nat.le_refl _) hbl hB HFR.out 3 x.line x.col).then ((Below.refl _ _).alloc (Nat.le_refl _) (.cells #[.int .i64 0, .int .i64 0, .int .i64 0] 31)) hB)
      obtain ⟨e0, e1, e2, _, _, _⟩ := ((HFR.out.stored 3 x.line x.col).alloc (.cells #[.int .i64 0, .int .i64 0, .int .i64 0] 31)).facts
      clear hcap
      go_wp2
      exact bodyPost_ret (v := .agg #[.int .i64 3, .int .i64 x.line, .int .i64 x.col]) (by simp [results, Tryz.results24, go_sem, e0, e1, e2]) rfl ⟨by rw [HE.out]; rfl, ⟨_, by rw [HE.out]; exact HK6.out⟩⟩
    · have hcz : (T2.length : Int) ≤ 4096 := by omega
      have HE : Hid (oneT s L i T = ⟨0, line, col, j, T2⟩) := by
        unfold Hid; rw [HRR.out]; unfold capT; rw [if_neg (by simp), if_neg hcap]
      have HK6 := Lib.hid ((HK.out.stored (Nat.le_refl _) hbl hB HFR.out 0 0 0).then ((Below.refl _ _).alloc (Nat.le_refl _) (.cells #[.int .i64 0, .int .i64 0, .int .i64 0] 31)) hB)
      obtain ⟨e0, e1, e2, _, _, _⟩ := ((HFR.out.stored 0 0 0).alloc (.cells #[.int .i64 0, .int .i64 0, .int .i64 0] 31)).facts
      clear hcap
      go_wp2
      exact bodyPost_ret (v := .agg #[.int .i64 0, .int .i64 0, .int .i64 0]) (by simp [results, Tryz.results24, go_sem, e0, e1, e2]) rfl ⟨by rw [HE.out]; rfl, ⟨_, by rw [HE.out]; exact HK6.out⟩⟩
  · rw [faultV_no her]
    have HE : Hid (oneT s L i T = ⟨er, line, col, j, T2⟩) := by
      unfold Hid; rw [HRR.out]; unfold capT; rw [if_pos her]
    have HK6 := Lib.hid ((HK.out.stored (Nat.le_refl _) hbl hB HFR.out er line col).then ((Below.refl _ _).alloc (Nat.le_refl _) (.cells #[.int .i64 er, .int .i64 line, .int .i64 col] 31)) hB)
    obtain ⟨e0, e1, e2, _, _, _⟩ := ((HFR.out.stored er line col).alloc (.cells #[.int .i64 er, .int .i64 line, .int .i64 col] 31)).facts
    have HER := Lib.hid her
    have hern : (er == 0) = false := beq_eq_false_iff_ne.2 her
    clear her
    go_wp2
    exact bodyPost_ret (v := .agg #[.int .i64 er, .int .i64 line, .int .i64 col]) (by simp [results, Tryz.results24, go_sem, e0, e1, e2]) rfl ⟨by rw [HE.out]; show _ = Ending.returned (faultV er line col); rw [faultV_no HER.out], ⟨_, by rw [HE.out]; exact HK6.out⟩⟩

set_option maxHeartbeats 4000000 in
theorem one_num2 {w : World} {B b : Nat} {s : ByteArray} {L : List Rn} {lv : Value} {i : Nat} {ov : Value} {T : List Tk} (h : Rd w B b s L lv i ov T) (hm : MaxCell w) (_hB0 : 2 < B) (hB : B ≤ w.heap.size) (hO : RnOk s L) (hT : T.length ≤ 5000) (hs : s.size ≤ 4294967200) (hi : i < L.length) (hnb : blankB (rAt L i) = false) (hn35 : rAt L i ≠ 35) (hnl : letterB (rAt L i) = false) (hdig : digitB (rAt L i) = false) (h45 : rAt L i = 45) (hd1 : digitB (rAt L (i + 1)) = true) :
    Calls Tryz.prog 24 #[.pointer (some ⟨b, 0, none⟩)] w (Stepped w B b s L lv (oneT s L i T)) := by
  have hL := hO.len
  obtain ⟨x, hx⟩ : ∃ x, L[i]? = some x := ⟨_, List.getElem?_eq_getElem hi⟩
  obtain ⟨c, hc⟩ : ∃ c, rAt L i = c := ⟨_, rfl⟩
  have hbl := h.lt
  have HR := Lib.hid h
  have HC := Lib.hid (show rAt L (i + 0) = c from hc)
  have HM := Lib.hid hm
  have HX := Lib.hid hx
  have hS : oneT s L i T = if blankB c then ⟨0, 0, 0, i + 1, T⟩ else if c = 35 then restT L i T else capT L i (tokT s L i T) := by unfold oneT; rw [hc]
  have HS := Lib.hid hS
  have hisn : isNum L i = true := by unfold isNum; rw [hdig, h45, hd1]; rfl
  obtain ⟨⟨y, hy⟩, hn1, h0, hdq⟩ := num_pre hO hi hisn
  have hg := hO.le _ _ x y (by omega) hx hy
  have HW := Lib.hid (And.intro hy (And.intro hdq hg))
  have HN := Lib.hid hisn
  clear hy hdq hg hisn
  have HD := Lib.hid (show digitB (rAt L i) = false from hdig)
  clear hdig
  obtain ⟨d, hd⟩ : ∃ d, rAt L (i + 1) = d := ⟨_, rfl⟩
  rw [hd] at hd1
  have HD1 := Lib.hid hd
  have HD2 := Lib.hid hd1
  clear hd hd1
  have H45 := Lib.hid h45
  clear h45
  obtain ⟨c0, c1, c2, c3, f2, f3⟩ := h.facts
  obtain ⟨g, cap, rfl, _, _, _, d3, d4⟩ := h.rune hx
  have hgl := World.block_lt_of_cell? w _ d3
  have hiz : (i : Int) < (L.length : Int) := by omega
  clear h hc hm hx hS
  go_enter Tryz.func24, Tryz.ntmps24
  go_wp2_with fail
  refine (rune_q (HR.out.keep ((Below.refl _ _).alloc (Nat.le_refl _) _)) 0 c HC.out hL (by omega) (by omega)).mono ?_
  rintro e w1 ⟨rfl, m, rfl⟩
  have HK1 := Lib.hid ((Took.of_rd (HR.out.keep ((Below.refl _ _).alloc (Nat.le_refl _) (.cells #[.int .i64 0, .int .i64 0, .int .i64 0] 31)))).after ((Below.refl _ _).alloc (Nat.le_refl _) _) hB)
  have HF1 := Lib.hid (FltAt.new w 0 0 0)
  have HS1 := Lib.hid (show oneT s L i T = capT L i (tokT s L i T) by unfold oneT; rw [hnb, if_neg hn35]; rfl)
  rw [show rAt L i = c from HC.out] at hnb hn35 hnl
  have h35 := hn35
  have HLET := Lib.hid hnl
  have HBL := Lib.hid hnb
  clear hnb hn35 hnl
  go_wp2_with fail
  refine (blankB_any c _).mono ?_
  rintro e w' ⟨rfl, rfl⟩
  rw [HBL.out]
  have h35' : (c == 35) = false := beq_eq_false_iff_ne.2 h35
  go_wp2_with fail
  go_region_held3 (fun w' => w'.cell? ⟨b, 1, none⟩ = some (.slice (some ⟨g, 0, none⟩) L.length cap) ∧ w'.cell? ⟨b, 2, none⟩ = some (.int .i64 i) ∧ w'.cell? ⟨g, i * 5 + 3, none⟩ = some (.int .i64 x.line) ∧ w'.cell? ⟨g, i * 5 + 4, none⟩ = some (.int .i64 x.col))
    (first | go_keep)
    (first | fail)
  have HB3 := Lib.hid ((Go.below_drewN ((Below.refl _ w).alloc (Nat.le_refl _) (.cells #[.int .i64 0, .int .i64 0, .int .i64 0] 31)) (m + 1)).alloc (by simp) (.cells #[.int .i64 x.line, .int .i64 x.col] 29))
  have HF3 := Lib.hid ((HF1.out.drewN (m + 1)).alloc (.cells #[.int .i64 x.line, .int .i64 x.col] 29))
  have HR3 := Lib.hid (HR.out.keep HB3.out)
  have HM3 := Lib.hid (HM.out.below HB3.out (by omega))
  have hp3 : PosAt (((w.alloc (.cells #[.int .i64 0, .int .i64 0, .int .i64 0] 31)).drewN (m + 1)).alloc (.cells #[.int .i64 x.line, .int .i64 x.col] 29)) (w.heap.size + 1) 29 x.line x.col := by
    have := heap_alloc_new ((w.alloc (.cells #[.int .i64 0, .int .i64 0, .int .i64 0] 31)).drewN (m + 1)) (.cells #[.int .i64 x.line, .int .i64 x.col] 29)
    rw [show ((w.alloc (.cells #[.int .i64 0, .int .i64 0, .int .i64 0] 31)).drewN (m + 1)).heap.size = w.heap.size + 1 by simp] at this
    exact this
  have HP3 := Lib.hid hp3
  have hB3 : B ≤ (((w.alloc (.cells #[.int .i64 0, .int .i64 0, .int .i64 0] 31)).drewN (m + 1)).alloc (.cells #[.int .i64 x.line, .int .i64 x.col] 29)).heap.size := by have := HB3.out.size; omega
  have HBB := Lib.hid hB3
  clear hp3 hB3
  go_wp2_with fail
  replace HD := Lib.hid ((congrArg digitB (show rAt L i = c from HC.out)).symm.trans HD.out)
  obtain rfl : c = 45 := (show rAt L i = c from HC.out).symm.trans H45.out
  refine (letterB_any 45 _).mono ?_
  rintro e w' ⟨rfl, rfl⟩
  rw [HLET.out]
  go_wp2_with fail
  refine (digitB_any 45 _).mono ?_
  rintro e w' ⟨rfl, rfl⟩
  rw [HD.out]
  go_wp2_with fail
  refine (rune_q HR3.out 1 d HD1.out hL (by omega) (by omega)).mono ?_
  rintro e w' ⟨rfl, q, rfl⟩
  replace HB3 := Lib.hid (Go.below_drewN HB3.out q)
  replace HF3 := Lib.hid (HF3.out.drewN q)
  replace HR3 := Lib.hid (HR3.out.drewN q)
  replace HM3 := Lib.hid (HM3.out.drewN q)
  replace HP3 := Lib.hid (HP3.out.drewN q)
  replace HBB := Lib.hid (le_drewN HBB.out q)
  go_wp2_with fail
  refine (digitB_any d _).mono ?_
  rintro e w' ⟨rfl, rfl⟩
  rw [HD2.out]
  obtain ⟨⟨er, line, col, j, T2⟩, hr⟩ : ∃ r, numbT s L i T = r := ⟨_, rfl⟩
  have HRR := Lib.hid ((show oneT s L i T = capT L i (numbT s L i T) by rw [HS1.out]; unfold tokT; rw [show rAt L i = 45 from HC.out, HLET.out, HN.out]; rfl).trans (by rw [hr]))
  have HRR2 := Lib.hid hr
  clear hr
  go_wp2_with fail
  refine (number_any HR3.out HBB.out hL (by omega) hs x y HX.out HW.out.1 hn1 HW.out.2.2.1 HW.out.2.2.2 h0 HW.out.2.1.1 HW.out.2.1.2).mono ?_
  rw [HRR2.out]
  rintro e w4 ⟨rfl, ov4, hk⟩
  have hfr := HF3.out.took hk (by omega)
  have hfp := HP3.out.took hk (by omega) (by decide)
  have HK := Lib.hid (hk.after HB3.out hB)
  clear hk
  obtain ⟨a0, a1, a2, a3, a4, a5⟩ := hfr.facts
  obtain ⟨p0, p1, p2, p3⟩ := hfp.facts
  have HFR := Lib.hid hfr
  have hfl := hfr.lt
  have hpl := hfp.lt
  have hbl4 := HK.out.rd.lt
  obtain ⟨ad4, cap4, hov4⟩ := owns_len HK.out.rd.out
  obtain ⟨_, _, _, q3, _, _⟩ := HK.out.rd.facts
  rw [hov4] at q3
  clear hfr hfp hov4
  by_cases her : er = 0
  · subst her
    rw [faultV_ok]
    by_cases hcap : 4096 < T2.length
    · have hcz : (4096 : Int) < (T2.length : Int) := by omega
      have HE : Hid (oneT s L i T = ⟨3, x.line, x.col, j, T2⟩) := by
        unfold Hid; rw [HRR.out]; unfold capT; rw [if_neg (by simp), if_pos hcap, (at_some HX.out).2.2.2.1, (at_some HX.out).2.2.2.2]
      have HK6 := Lib.hid ((HK.out.stored (Nat.le_refl _) hbl hB HFR.out 3 x.line x.col).then ((Below.refl _ _).alloc (Nat.le_refl _) (.cells #[.int .i64 0, .int .i64 0, .int .i64 0] 31)) hB)
      obtain ⟨e0, e1, e2, _, _, _⟩ := ((HFR.out.stored 3 x.line x.col).alloc (.cells #[.int .i64 0, .int .i64 0, .int .i64 0] 31)).facts
      clear hcap
      go_wp2
      exact bodyPost_ret (v := .agg #[.int .i64 3, .int .i64 x.line, .int .i64 x.col]) (by simp [results, Tryz.results24, go_sem, e0, e1, e2]) rfl ⟨by rw [HE.out]; rfl, ⟨_, by rw [HE.out]; exact HK6.out⟩⟩
    · have hcz : (T2.length : Int) ≤ 4096 := by omega
      have HE : Hid (oneT s L i T = ⟨0, line, col, j, T2⟩) := by
        unfold Hid; rw [HRR.out]; unfold capT; rw [if_neg (by simp), if_neg hcap]
      have HK6 := Lib.hid ((HK.out.stored (Nat.le_refl _) hbl hB HFR.out 0 0 0).then ((Below.refl _ _).alloc (Nat.le_refl _) (.cells #[.int .i64 0, .int .i64 0, .int .i64 0] 31)) hB)
      obtain ⟨e0, e1, e2, _, _, _⟩ := ((HFR.out.stored 0 0 0).alloc (.cells #[.int .i64 0, .int .i64 0, .int .i64 0] 31)).facts
      clear hcap
      go_wp2
      exact bodyPost_ret (v := .agg #[.int .i64 0, .int .i64 0, .int .i64 0]) (by simp [results, Tryz.results24, go_sem, e0, e1, e2]) rfl ⟨by rw [HE.out]; rfl, ⟨_, by rw [HE.out]; exact HK6.out⟩⟩
  · rw [faultV_no her]
    have HE : Hid (oneT s L i T = ⟨er, line, col, j, T2⟩) := by
      unfold Hid; rw [HRR.out]; unfold capT; rw [if_pos her]
    have HK6 := Lib.hid ((HK.out.stored (Nat.le_refl _) hbl hB HFR.out er line col).then ((Below.refl _ _).alloc (Nat.le_refl _) (.cells #[.int .i64 er, .int .i64 line, .int .i64 col] 31)) hB)
    obtain ⟨e0, e1, e2, _, _, _⟩ := ((HFR.out.stored er line col).alloc (.cells #[.int .i64 er, .int .i64 line, .int .i64 col] 31)).facts
    have HER := Lib.hid her
    have hern : (er == 0) = false := beq_eq_false_iff_ne.2 her
    clear her
    go_wp2
    exact bodyPost_ret (v := .agg #[.int .i64 er, .int .i64 line, .int .i64 col]) (by simp [results, Tryz.results24, go_sem, e0, e1, e2]) rfl ⟨by rw [HE.out]; show _ = Ending.returned (faultV er line col); rw [faultV_no HER.out], ⟨_, by rw [HE.out]; exact HK6.out⟩⟩


end Go.Proofs.YthhjepgcbfmfeaaGreatDoor
