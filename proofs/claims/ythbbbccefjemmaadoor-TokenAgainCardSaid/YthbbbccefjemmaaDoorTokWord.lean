/- Contract of the token reader's word. -/
import Derived.Test.YthbbbccefjemmaaDoorTokSpec
import Derived.Deep.RegionWith
namespace Go.Proofs.YthbbbccefjemmaaDoor
open Go.RowKit

theorem lowerB_same (b : UInt8) : Lib.lowerB b = b ↔ greatB (b.toNat : Int) = false := by
  have key : ∀ n : Fin 256, Lib.lowerB (UInt8.ofNat n.val) = UInt8.ofNat n.val ↔ greatB ((UInt8.ofNat n.val).toNat : Int) = false := by decide +kernel
  have := key ⟨b.toNat, b.toNat_lt⟩
  simpa using this
theorem lower_same (l : List UInt8) : (Lib.toLowerA l = l) ↔ l.any (fun b => greatB (b.toNat : Int)) = false := by
  unfold Lib.toLowerA
  induction l with
  | nil => simp
  | cons x r ih => rw [List.map_cons, List.cons.injEq, ih, lowerB_same, List.any_cons, Bool.or_eq_false_iff]

set_option maxHeartbeats 2000000 in
theorem word_any {w : World} {B b : Nat} {s : ByteArray} {L : List Rn} {lv : Value} {i : Nat} {ov : Value} {T : List Tk} (h : Rd w B b s L lv i ov T) (hm : MaxCell w) (hB0 : 0 < B) (hB : B ≤ w.heap.size) (hL : L.length ≤ 16385) (hT : T.length ≤ 100000) (hs : s.size ≤ 4294967200)
    (x y : Rn) (hx : L[i]? = some x) (hy : L[i + (wordN L i - 1)]? = some y) (hn : 1 ≤ wordN L i) (hxy : x.fr ≤ y.to) (hys : y.to ≤ s.size) (hasc : ∀ c ∈ (txt s L i (wordN L i)).data.toList, c.toNat < 128) :
    Calls Tryd.prog 28 #[.pointer (some ⟨b, 0, none⟩)] w (Stepped w B b s L lv (wordT s L i T)) := by
  have hi := (List.getElem?_eq_some_iff.1 hx).1
  obtain ⟨t, ht⟩ : ∃ t, txt s L i (wordN L i) = t := ⟨_, rfl⟩
  obtain ⟨n, hnn⟩ : ∃ n, wordN L i = n := ⟨_, rfl⟩
  have hR : rowE innerB L (i + 0) - i = n := hnn
  have hte : s.extract x.fr y.to = t := by rw [← ht]; unfold txt; rw [(at_some hx).2.1, (at_some hy).2.2.1]
  rw [ht] at hasc
  rw [hnn] at hn hy
  have hw : wordT s L i T = ⟨wordErr t, x.line, x.col, i + n, T ++ [⟨wordKind t, t, 0, x.line, x.col⟩]⟩ := by
    unfold wordT; rw [ht, hnn, (at_some hx).2.2.2.1, (at_some hx).2.2.2.2]
  have HW := Lib.hid hw
  have hts : t.size ≤ s.size := by rw [← hte, ByteArray.size_extract]; omega
  have HR := Lib.hid h
  have HI := Lib.hid (And.intro hR hte)
  have HM := Lib.hid hm
  have HX := Lib.hid (And.intro hx hy)
  have hbl := h.lt
  clear h hR hte hm hx hy hw
  go_enter Tryd.func28, Tryd.ntmps28
  go_wp2_with fail
  refine (row_innerB (HR.out.keep ((Below.refl _ _).alloc (Nat.le_refl _) _)) 0 hL (by omega) (by omega)).mono ?_
  rintro e w1 ⟨rfl, hb1⟩
  have HB1 := Lib.hid (((Below.refl _ w).alloc (Nat.le_refl _) _).trans (hb1.mono (by simp)))
  have HF1 := Lib.hid ((FltAt.new w 0 0 0).below hb1 (by simp))
  clear hb1
  rw [HI.out.1]
  go_wp2_with fail
  refine (fault_any (HR.out.keep HB1.out) 0 x HX.out.1 hL).mono ?_
  rintro e w2 ⟨rfl, hb2⟩
  have HB2 := Lib.hid (HB1.out.trans (hb2.mono HB1.out.size))
  have HF2 := Lib.hid (HF1.out.below hb2 HF1.out.lt)
  clear hb2 HB1 HF1
  go_wp2_with fail
  refine (take_any (HR.out.keep (HB2.out.alloc HB2.out.size _)) 1 n x y HX.out.1 HX.out.2 hn hL hT hxy hys (by have := HB2.out.size; simp; omega)).mono ?_
  rintro e w3 ⟨g3, cap3, rfl, hk⟩
  rw [HI.out.2] at hk
  have hfb := (FltAt.new w2 0 x.line x.col).took hk (by have := HB2.out.size; omega)
  have hfr := (HF2.out.alloc _).took hk (by omega)
  have HK := Lib.hid (hk.after (HB2.out.alloc HB2.out.size _) hB)
  obtain ⟨_, c1, _, f0, _, hgl, hgn⟩ := hk.last
  have hgb := hgn _ _ _ _ hfr
  clear hk HF2 hgn
  obtain ⟨a0, a1, a2, a3, a4, a5⟩ := hfr.facts
  obtain ⟨b0, b1, b2, b3, b4, b5⟩ := hfb.facts
  have HFR := Lib.hid hfr
  have HFB := Lib.hid hfb
  clear hfr hfb
  go_wp2_with fail
  refine (known_any t _ (HM.out.below HK.out.low hB0) (by omega)).mono ?_
  rintro e w' ⟨rfl, rfl⟩
  cases hkn : knownB t
  · have hq : (⟨(Lib.toLowerA t.data.toList).toArray⟩ : ByteArray) = t ↔ hasGreatB t = false := by
      unfold hasGreatB
      rw [← lower_same]
      exact ⟨fun e => by have := congrArg (fun q : ByteArray => q.data.toList) e; simpa using this, fun e => by rw [e]⟩
    have HN := Lib.hid hkn; clear hkn
    obtain ⟨tl, htl⟩ : ∃ tl : ByteArray, (⟨(Lib.toLowerA t.data.toList).toArray⟩ : ByteArray) = tl := ⟨_, rfl⟩
    rw [htl] at hq
    have HTL := Lib.hid htl; clear htl
    have HA := Lib.hid hasc; clear hasc
    go_wp2
    go_region_held3 (fun w' => w'.cell? ⟨g3, T.length * 5 + 1, none⟩ = some (.string t)) (first | assumption | go_keep)
      (first | (go_at_call 49; refine (Tryd.strings_ToLower_ascii t _ (by omega) (by intro j c hc; exact HA.out c (List.mem_of_getElem? hc))).mono ?_; rintro e w5 ⟨rfl, hb5⟩; rw [HTL.out]; have q5 := (hb5.cell (p := ⟨g3, T.length * 5 + 1, none⟩) hgl).trans c1))
    replace hb5 := ((Below.refl w3.heap.size w3).drew).trans hb5
    have HK5 := Lib.hid (HK.out.then hb5 hB)
    have hfr5 := HFR.out.below hb5 HFR.out.lt
    have hfb5 := HFB.out.below hb5 HFB.out.lt
    clear hb5 a0 a1 a2 a3 a4 a5 b0 b1 b2 b3 b4 b5
    obtain ⟨a0, a1, a2, a3, a4, a5⟩ := hfr5.facts
    obtain ⟨b0, b1, b2, b3, b4, b5⟩ := hfb5.facts
    have HKD : Hid (wordKind t = 1) := by unfold Hid wordKind; rw [HN.out]; rfl
    cases hg : hasGreatB t
    · have hte : (tl.toList == t.toList) = true := by rw [hq.2 hg]; simp
      rw [hte]
      clear hte
      by_cases h16 : 16 < t.size
      · have HE : Hid (wordErr t = 3) := by unfold Hid wordErr; rw [HN.out, hg]; simp [h16]
        have h16' : (16 : Int) < t.size := by omega
        clear hg hq h16
        have HK6 := Lib.hid (HK5.out.stored (Nat.le_refl _) hbl hB hfr5 3 x.line x.col)
        obtain ⟨e0, e1, e2, _, _, _⟩ := (hfr5.stored 3 x.line x.col).facts
        clear hfr5 hfb5
        go_wp2
        exact bodyPost_ret (v := .agg #[.int .i64 (3), .int .i64 (x.line), .int .i64 (x.col)]) (by simp [results, Tryd.results28, go_sem, e0, e1, e2]) rfl ⟨by rw [HW.out]; show _ = Ending.returned (faultV (wordErr t) _ _); rw [HE.out]; rfl, ⟨_, by rw [HW.out]; show Took _ _ _ _ _ _ _ _ _ (T ++ [⟨wordKind t, _, _, _, _⟩]); rw [HKD.out]; exact HK6.out⟩⟩
      · have HE : Hid (wordErr t = 0) := by unfold Hid wordErr; rw [HN.out, hg]; simp [h16]
        have h16' : (t.size : Int) ≤ 16 := by omega
        clear hg hq h16
        have HK6 := Lib.hid (HK5.out.stored (Nat.le_refl _) hbl hB hfr5 0 0 0)
        obtain ⟨e0, e1, e2, _, _, _⟩ := (hfr5.stored 0 0 0).facts
        clear hfr5 hfb5
        go_wp2
        exact bodyPost_ret (v := .agg #[.int .i64 (0), .int .i64 (0), .int .i64 (0)]) (by simp [results, Tryd.results28, go_sem, e0, e1, e2]) rfl ⟨by rw [HW.out]; show _ = Ending.returned (faultV (wordErr t) _ _); rw [HE.out]; rfl, ⟨_, by rw [HW.out]; show Took _ _ _ _ _ _ _ _ _ (T ++ [⟨wordKind t, _, _, _, _⟩]); rw [HKD.out]; exact HK6.out⟩⟩
    · have hte : (tl.toList == t.toList) = false := by
        rw [beq_bytes]
        exact decide_eq_false (fun e => by rw [hq.1 e] at hg; cases hg)
      rw [hte]
      clear hte
      have HE : Hid (wordErr t = 1) := by unfold Hid wordErr; rw [HN.out, hg]; rfl
      clear hg hq
      have HK6 := Lib.hid (HK5.out.stored (Nat.le_refl _) hbl hB hfr5 1 x.line x.col)
      obtain ⟨e0, e1, e2, _, _, _⟩ := (hfr5.stored 1 x.line x.col).facts
      clear hfr5 hfb5
      go_wp2
      exact bodyPost_ret (v := .agg #[.int .i64 (1), .int .i64 (x.line), .int .i64 (x.col)]) (by simp [results, Tryd.results28, go_sem, e0, e1, e2]) rfl ⟨by rw [HW.out]; show _ = Ending.returned (faultV (wordErr t) _ _); rw [HE.out]; rfl, ⟨_, by rw [HW.out]; show Took _ _ _ _ _ _ _ _ _ (T ++ [⟨wordKind t, _, _, _, _⟩]); rw [HKD.out]; exact HK6.out⟩⟩
  · have HN := Lib.hid hkn; clear hkn
    have HK2 := Lib.hid (HK.out.setTok (j := 0) (u := .int .i64 2) (y := ⟨2, t, 0, x.line, x.col⟩) (by omega) rfl)
    have hf2 := HFR.out.setOther (j := T.length * 5) hgb (.int .i64 2)
    obtain ⟨d0, d1, d2, d3, d4, d5⟩ := hf2.facts
    have HK3 := Lib.hid (HK2.out.stored (Nat.le_refl _) hbl hB hf2 0 0 0)
    have hf3 := (hf2.stored 0 0 0).facts
    obtain ⟨e0, e1, e2, _, _, _⟩ := hf3
    clear hf2
    go_wp2
    exact bodyPost_ret (v := .agg #[.int .i64 0, .int .i64 0, .int .i64 0]) (by simp [results, Tryd.results28, go_sem, e0, e1, e2]) rfl ⟨by rw [HW.out]; show _ = Ending.returned (faultV (wordErr t) _ _); rw [show wordErr t = 0 by unfold wordErr; rw [HN.out]; rfl]; rfl, ⟨_, by rw [HW.out]; show Took _ _ _ _ _ _ _ _ _ (T ++ [⟨wordKind t, _, _, _, _⟩]); rw [show wordKind t = 2 by unfold wordKind; rw [HN.out]; rfl]; exact HK3.out⟩⟩

end Go.Proofs.YthbbbccefjemmaaDoor
