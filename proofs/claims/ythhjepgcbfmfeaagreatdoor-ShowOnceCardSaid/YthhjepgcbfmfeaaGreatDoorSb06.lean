/- Contract of the token reader's word. Contract of the token reader's number. Plain: which two runes are a sign, as token finds it in a text of signs. Contract of the token reader's sign. -/
import Derived.Test.YthhjepgcbfmfeaaGreatDoorSb05
import Derived.Deep.RegionWith
import Derived.Test.YthhjepgcbfmfeaaGreatDoorSb04
import Derived.Lib.IndexLaws
import Derived.Lib.Strings
import Derived.Lib.IndexMore
import Derived.Laws.Cover4

namespace Go.Proofs.YthhjepgcbfmfeaaGreatDoor
open Go.RowKit

theorem lowerB_same (b : UInt8) : Lib.lowerB b = b ↔ greatB (b.toNat : Int) = false := by
  have key : ∀ n : Fin 256, Lib.lowerB (UInt8.ofNat n.val) = UInt8.ofNat n.val ↔ greatB ((UInt8.ofNat n.val).toNat : Int) = false := by decide +kernel
  have := key ⟨b.toNat, b.toNat_lt⟩
  simpa using this
theorem lower_same (l : List UInt8) : (Lib.toLowerA l = l) ↔ l.any (fun b => greatB (b.toNat : Int)) = false := by
  unfold Lib.toLowerA
  induction l with
  | nil => simp
  | cons x r ih => rw [List.map_cons, List.cons.injEq, ih, lowerB_same, List.any_cons, Bool.or_eq_false_iff]

set_option maxHeartbeats 2000000 in
theorem word_any {w : World} {B b : Nat} {s : ByteArray} {L : List Rn} {lv : Value} {i : Nat} {ov : Value} {T : List Tk} (h : Rd w B b s L lv i ov T) (hm : MaxCell w) (hB0 : 2 < B) (hB : B ≤ w.heap.size) (hL : L.length ≤ 16385) (hT : T.length ≤ 100000) (hs : s.size ≤ 4294967200)
    (x y : Rn) (hx : L[i]? = some x) (hy : L[i + (wordN L i - 1)]? = some y) (hn : 1 ≤ wordN L i) (hxy : x.fr ≤ y.to) (hys : y.to ≤ s.size) (hasc : ∀ c ∈ (txt s L i (wordN L i)).data.toList, c.toNat < 128) :
    Calls Tryz.prog 38 #[.pointer (some ⟨b, 0, none⟩)] w (Stepped w B b s L lv (wordT s L i T)) := by
  have hi := (List.getElem?_eq_some_iff.1 hx).1
  obtain ⟨t, ht⟩ : ∃ t, txt s L i (wordN L i) = t := ⟨_, rfl⟩
  obtain ⟨n, hnn⟩ : ∃ n, wordN L i = n := ⟨_, rfl⟩
  have hR : rowE innerB L (i + 0) - i = n := hnn
  have hte : s.extract x.fr y.to = t := by rw [← ht]; unfold txt; rw [(at_some hx).2.1, (at_some hy).2.2.1]
  rw [ht] at hasc
  rw [hnn] at hn hy
  have hw : wordT s L i T = ⟨wordErr t, x.line, x.col, i + n, T ++ [⟨wordKind t, t, 0, x.line, x.col⟩]⟩ := by
    unfold wordT; rw [ht, hnn, (at_some hx).2.2.2.1, (at_some hx).2.2.2.2]
  have HW := Lib.hid hw
  have hts : t.size ≤ s.size := by rw [← hte, ByteArray.size_extract]; omega
  have HR := Lib.hid h
  have HI := Lib.hid (And.intro hR hte)
  have HM := Lib.hid hm
  have HX := Lib.hid (And.intro hx hy)
  have hbl := h.lt
  clear h hR hte hm hx hy hw
  go_enter Tryz.func38, Tryz.ntmps38
  go_wp2_with fail
  refine (row_innerB (HR.out.keep ((Below.refl _ _).alloc (Nat.le_refl _) _)) 0 hL (by omega) (by omega)).mono ?_
  rintro e w1 ⟨rfl, hb1⟩
  have HB1 := Lib.hid (((Below.refl _ w).alloc (Nat.le_refl _) _).trans (hb1.mono (by simp)))
  have HF1 := Lib.hid ((FltAt.new w 0 0 0).below hb1 (by simp))
  clear hb1
  rw [HI.out.1]
  go_wp2_with fail
  refine (fault_any (HR.out.keep HB1.out) 0 x HX.out.1 hL).mono ?_
  rintro e w2 ⟨rfl, hb2⟩
  have HB2 := Lib.hid (HB1.out.trans (hb2.mono HB1.out.size))
  have HF2 := Lib.hid (HF1.out.below hb2 HF1.out.lt)
  clear hb2 HB1 HF1
  go_wp2_with fail
  refine (take_any (HR.out.keep (HB2.out.alloc HB2.out.size _)) 1 n x y HX.out.1 HX.out.2 hn hL hT hxy hys (by have := HB2.out.size; simp; omega)).mono ?_
  rintro e w3 ⟨g3, cap3, rfl, hk⟩
  rw [HI.out.2] at hk
  have hfb := (FltAt.new w2 0 x.line x.col).took hk (by have := HB2.out.size; omega)
  have hfr := (HF2.out.alloc _).took hk (by omega)
  have HK := Lib.hid (hk.after (HB2.out.alloc HB2.out.size _) hB)
  obtain ⟨_, c1, _, f0, _, hgl, hgn⟩ := hk.last
  have hgb := hgn _ _ _ _ hfr
  clear hk HF2 hgn
  obtain ⟨a0, a1, a2, a3, a4, a5⟩ := hfr.facts
  obtain ⟨b0, b1, b2, b3, b4, b5⟩ := hfb.facts
  have HFR := Lib.hid hfr
  have HFB := Lib.hid hfb
  clear hfr hfb
  go_wp2_with fail
  refine (known_any t _ (HM.out.below HK.out.low hB0) (by omega)).mono ?_
  rintro e w' ⟨rfl, rfl⟩
  cases hkn : knownB t
  · have hq : (⟨(Lib.toLowerA t.data.toList).toArray⟩ : ByteArray) = t ↔ hasGreatB t = false := by
      unfold hasGreatB
      rw [← lower_same]
      exact ⟨fun e => by have := congrArg (fun q : ByteArray => q.data.toList) e; simpa using this, fun e => by rw [e]⟩
    have HN := Lib.hid hkn; clear hkn
    obtain ⟨tl, htl⟩ : ∃ tl : ByteArray, (⟨(Lib.toLowerA t.data.toList).toArray⟩ : ByteArray) = tl := ⟨_, rfl⟩
    rw [htl] at hq
    have HTL := Lib.hid htl; clear htl
    have HA := Lib.hid hasc; clear hasc
    go_wp2
    go_region_held3 (fun w' => w'.cell? ⟨g3, T.length * 5 + 1, none⟩ = some (.string t)) (first | assumption | go_keep)
      (first | (go_at_call 60; refine (Tryz.strings_ToLower_ascii t _ (by omega) (by intro j c hc; exact HA.out c (List.mem_of_getElem? hc))).mono ?_; rintro e w5 ⟨rfl, hb5⟩; rw [HTL.out]; have q5 := (hb5.cell (p := ⟨g3, T.length * 5 + 1, none⟩) hgl).trans c1))
    replace hb5 := ((Below.refl w3.heap.size w3).drew).trans hb5
    have HK5 := Lib.hid (HK.out.then hb5 hB)
    have hfr5 := HFR.out.below hb5 HFR.out.lt
    have hfb5 := HFB.out.below hb5 HFB.out.lt
    clear hb5 a0 a1 a2 a3 a4 a5 b0 b1 b2 b3 b4 b5
    obtain ⟨a0, a1, a2, a3, a4, a5⟩ := hfr5.facts
    obtain ⟨b0, b1, b2, b3, b4, b5⟩ := hfb5.facts
    have HKD : Hid (wordKind t = 1) := by unfold Hid wordKind; rw [HN.out]; rfl
    cases hg : hasGreatB t
    · have hte : (tl.toList == t.toList) = true := by rw [hq.2 hg]; simp
      rw [hte]
      clear hte
      by_cases h16 : 16 < t.size
      · have HE : Hid (wordErr t = 3) := by unfold Hid wordErr; rw [HN.out, hg]; simp [h16]
        have h16' : (16 : Int) < t.size := by omega
        clear hg hq h16
        have HK6 := Lib.hid (HK5.out.stored (Nat.le_refl _) hbl hB hfr5 3 x.line x.col)
        obtain ⟨e0, e1, e2, _, _, _⟩ := (hfr5.stored 3 x.line x.col).facts
        clear hfr5 hfb5
        go_wp2
        exact bodyPost_ret (v := .agg #[.int .i64 (3), .int .i64 (x.line), .int .i64 (x.col)]) (by simp [results, Tryz.results38, go_sem, e0, e1, e2]) rfl ⟨by rw [HW.out]; show _ = Ending.returned (faultV (wordErr t) _ _); rw [HE.out]; rfl, ⟨_, by rw [HW.out]; show Took _ _ _ _ _ _ _ _ _ (T ++ [⟨wordKind t, _, _, _, _⟩]); rw [HKD.out]; exact HK6.out⟩⟩
      · have HE : Hid (wordErr t = 0) := by unfold Hid wordErr; rw [HN.out, hg]; simp [h16]
        have h16' : (t.size : Int) ≤ 16 := by omega
        clear hg hq h16
        have HK6 := Lib.hid (HK5.out.stored (Nat.le_refl _) hbl hB hfr5 0 0 0)
        obtain ⟨e0, e1, e2, _, _, _⟩ := (hfr5.stored 0 0 0).facts
        clear hfr5 hfb5
        go_wp2
        exact bodyPost_ret (v := .agg #[.int .i64 (0), .int .i64 (0), .int .i64 (0)]) (by simp [results, Tryz.results38, go_sem, e0, e1, e2]) rfl ⟨by rw [HW.out]; show _ = Ending.returned (faultV (wordErr t) _ _); rw [HE.out]; rfl, ⟨_, by rw [HW.out]; show Took _ _ _ _ _ _ _ _ _ (T ++ [⟨wordKind t, _, _, _, _⟩]); rw [HKD.out]; exact HK6.out⟩⟩
    · have hte : (tl.toList == t.toList) = false := by
        rw [beq_bytes]
        exact decide_eq_false (fun e => by rw [hq.1 e] at hg; cases hg)
      rw [hte]
      clear hte
      have HE : Hid (wordErr t = 1) := by unfold Hid wordErr; rw [HN.out, hg]; rfl
      clear hg hq
      have HK6 := Lib.hid (HK5.out.stored (Nat.le_refl _) hbl hB hfr5 1 x.line x.col)
      obtain ⟨e0, e1, e2, _, _, _⟩ := (hfr5.stored 1 x.line x.col).facts
      clear hfr5 hfb5
      go_wp2
      exact bodyPost_ret (v := .agg #[.int .i64 (1), .int .i64 (x.line), .int .i64 (x.col)]) (by simp [results, Tryz.results38, go_sem, e0, e1, e2]) rfl ⟨by rw [HW.out]; show _ = Ending.returned (faultV (wordErr t) _ _); rw [HE.out]; rfl, ⟨_, by rw [HW.out]; show Took _ _ _ _ _ _ _ _ _ (T ++ [⟨wordKind t, _, _, _, _⟩]); rw [HKD.out]; exact HK6.out⟩⟩
  · have HN := Lib.hid hkn; clear hkn
    have HK2 := Lib.hid (HK.out.setTok (j := 0) (u := .int .i64 2) (y := ⟨2, t, 0, x.line, x.col⟩) (by omega) rfl)
    have hf2 := HFR.out.setOther (j := T.length * 5) hgb (.int .i64 2)
    obtain ⟨d0, d1, d2, d3, d4, d5⟩ := hf2.facts
    have HK3 := Lib.hid (HK2.out.stored (Nat.le_refl _) hbl hB hf2 0 0 0)
    have hf3 := (hf2.stored 0 0 0).facts
    obtain ⟨e0, e1, e2, _, _, _⟩ := hf3
    clear hf2
    go_wp2
    exact bodyPost_ret (v := .agg #[.int .i64 0, .int .i64 0, .int .i64 0]) (by simp [results, Tryz.results38, go_sem, e0, e1, e2]) rfl ⟨by rw [HW.out]; show _ = Ending.returned (faultV (wordErr t) _ _); rw [show wordErr t = 0 by unfold wordErr; rw [HN.out]; rfl]; rfl, ⟨_, by rw [HW.out]; show Took _ _ _ _ _ _ _ _ _ (T ++ [⟨wordKind t, _, _, _, _⟩]); rw [show wordKind t = 2 by unfold wordKind; rw [HN.out]; rfl]; exact HK3.out⟩⟩

end Go.Proofs.YthhjepgcbfmfeaaGreatDoor

namespace Go.Proofs.YthhjepgcbfmfeaaGreatDoor
open Go.RowKit

theorem value_any (t : ByteArray) (w : World) (hs : t.size ≤ 4294967296) (h0 : 0 < t.size) (hd : if (t[0]'h0).toNat = 45 then DigT (t.extract 1 t.size) else DigT t) :
    Calls Tryz.prog 61 #[.string t] w fun e w' => e = .returned (.tuple #[.int .i64 (valN t (decide ((t[0]'h0).toNat = 45))).1, .bool (valN t (decide ((t[0]'h0).toNat = 45))).2]) ∧ w = w' := by
  by_cases h : (t[0]'h0).toNat = 45
  · rw [decide_eq_true h]; rw [if_pos h] at hd; exact value_neg t w hs h0 h hd
  · rw [decide_eq_false h]; rw [if_neg h] at hd; exact value_pos t w hs h0 hd

set_option maxHeartbeats 2000000 in
theorem number_any {w : World} {B b : Nat} {s : ByteArray} {L : List Rn} {lv : Value} {i : Nat} {ov : Value} {T : List Tk} (h : Rd w B b s L lv i ov T) (hB : B ≤ w.heap.size) (hL : L.length ≤ 16385) (hT : T.length ≤ 100000) (hs : s.size ≤ 4294967200)
    (x y : Rn) (hx : L[i]? = some x) (hy : L[i + (numN L i - 1)]? = some y) (hn : 1 ≤ numN L i) (hxy : x.fr ≤ y.to) (hys : y.to ≤ s.size) (h0 : 0 < (txt s L i (numN L i)).size)
    (hd : if ((txt s L i (numN L i))[0]'h0).toNat = 45 then DigT ((txt s L i (numN L i)).extract 1 (txt s L i (numN L i)).size) else DigT (txt s L i (numN L i))) (hq : (((txt s L i (numN L i))[0]'h0).toNat = 45) = (rAt L i = 45)) :
    Calls Tryz.prog 40 #[.pointer (some ⟨b, 0, none⟩)] w (Stepped w B b s L lv (numbT s L i T)) := by
  have hi := (List.getElem?_eq_some_iff.1 hx).1
  have hR : rowE digitB L (i + 1) - i = numN L i := rfl
  have hte : s.extract x.fr y.to = txt s L i (numN L i) := by unfold txt; rw [(at_some hx).2.1, (at_some hy).2.2.1]
  have hts : (txt s L i (numN L i)).size ≤ s.size := by rw [← hte, ByteArray.size_extract]; omega
  have hval := fun W => value_any (txt s L i (numN L i)) W (by omega) h0 hd
  have hdq : decide (((txt s L i (numN L i))[0]'h0).toNat = 45) = decide (rAt L i = 45) := by simp only [hq]
  rw [hdq] at hval
  have hw : numbT s L i T = ⟨if (valN (txt s L i (numN L i)) (decide (rAt L i = 45))).2 then 0 else 2, x.line, x.col, i + numN L i, T ++ [⟨3, txt s L i (numN L i), (valN (txt s L i (numN L i)) (decide (rAt L i = 45))).1, x.line, x.col⟩]⟩ := by
    unfold numbT numVal; rw [(at_some hx).2.2.2.1, (at_some hx).2.2.2.2]
  have hov : (valN (txt s L i (numN L i)) (decide (rAt L i = 45))).2 = false → (valN (txt s L i (numN L i)) (decide (rAt L i = 45))).1 = 0 := by
    unfold valN; split <;> split <;> simp
  obtain ⟨vv, hvv⟩ : ∃ vv, valN (txt s L i (numN L i)) (decide (rAt L i = 45)) = vv := ⟨_, rfl⟩
  obtain ⟨v, ok⟩ := vv
  rw [hvv] at hval hw hov
  clear hd hq hdq hvv
  obtain ⟨t, ht⟩ : ∃ t, txt s L i (numN L i) = t := ⟨_, rfl⟩
  obtain ⟨n, hnn⟩ : ∃ n, numN L i = n := ⟨_, rfl⟩
  rw [hnn] at hn hy hR
  rw [ht] at hw hval hte hts
  rw [hnn] at hw
  clear ht h0
  have HW := Lib.hid hw
  have HV := Lib.hid hval
  have HR := Lib.hid h
  have HI := Lib.hid (And.intro hR hte)
  have HX := Lib.hid (And.intro hx hy)
  have HO := Lib.hid hov
  have hbl := h.lt
  clear h hR hte hx hy hw hval hnn hov
  go_enter Tryz.func40, Tryz.ntmps40
  go_wp2_with fail
  refine (fault_any (HR.out.keep ((Below.refl _ _).alloc (Nat.le_refl _) _)) 0 x HX.out.1 hL).mono ?_
  rintro e w1 ⟨rfl, hb1⟩
  have HB1 := Lib.hid (((Below.refl _ w).alloc (Nat.le_refl _) _).trans (hb1.mono (by simp)))
  have HF1 := Lib.hid ((FltAt.new w 0 0 0).below hb1 (by simp))
  clear hb1
  go_wp2_with fail
  refine (row_digitB (HR.out.keep (HB1.out.alloc HB1.out.size _)) 1 hL (by omega) (by omega)).mono ?_
  rintro e w2 ⟨rfl, hb2⟩
  have HB2 := Lib.hid ((HB1.out.alloc HB1.out.size _).trans (hb2.mono (by have := HB1.out.size; simp; omega)))
  have HF2 := Lib.hid ((HF1.out.alloc _).below hb2 (by have := HF1.out.lt; simp; omega))
  have HG2 := Lib.hid ((FltAt.new w1 0 x.line x.col).below hb2 (by simp))
  have hw1 := HB1.out.size
  clear hb2 HB1 HF1
  rw [HI.out.1]
  go_wp2_with fail
  refine (take_any (HR.out.keep HB2.out) 3 n x y HX.out.1 HX.out.2 hn hL hT hxy hys (by have := HB2.out.size; omega)).mono ?_
  rintro e w3 ⟨g3, cap3, rfl, hk⟩
  rw [HI.out.2] at hk
  have hfb := HG2.out.took hk (by omega)
  have hfr := HF2.out.took hk (by omega)
  have HK := Lib.hid (hk.after HB2.out hB)
  obtain ⟨_, c1, c2, _, f2, hgl, hgn⟩ := hk.last
  have hgb := hgn _ _ _ _ hfr
  clear hk HF2 HG2 hgn
  obtain ⟨a0, a1, a2, a3, a4, a5⟩ := hfr.facts
  obtain ⟨b0, b1, b2, b3, b4, b5⟩ := hfb.facts
  have HFR := Lib.hid hfr
  clear hfr hfb
  go_wp2_with fail
  refine (HV.out _).mono ?_
  rintro e w' ⟨rfl, rfl⟩
  cases ok
  · have HV0 := Lib.hid (HO.out rfl)
    have HK6 := Lib.hid (HK.out.stored (Nat.le_refl _) hbl hB HFR.out 2 x.line x.col)
    obtain ⟨e0, e1, e2, _, _, _⟩ := (HFR.out.stored 2 x.line x.col).facts
    go_wp2
    exact bodyPost_ret (v := .agg #[.int .i64 2, .int .i64 x.line, .int .i64 x.col]) (by simp [results, Tryz.results40, go_sem, e0, e1, e2]) rfl ⟨by rw [HW.out]; rfl, ⟨_, by rw [HW.out]; show Took _ _ _ _ _ _ _ _ _ (T ++ [⟨3, t, v, _, _⟩]); rw [HV0.out]; exact HK6.out⟩⟩
  · have HK2 := Lib.hid (HK.out.setTok (j := 2) (u := .int .i64 v) (y := ⟨3, t, v, x.line, x.col⟩) (by omega) rfl)
    have hf2 := HFR.out.setOther (j := T.length * 5 + 2) hgb (.int .i64 v)
    obtain ⟨d0, d1, d2, d3, d4, d5⟩ := hf2.facts
    have HK3 := Lib.hid (HK2.out.stored (Nat.le_refl _) hbl hB hf2 0 0 0)
    obtain ⟨e0, e1, e2, _, _, _⟩ := (hf2.stored 0 0 0).facts
    clear hf2
    go_wp2
    exact bodyPost_ret (v := .agg #[.int .i64 0, .int .i64 0, .int .i64 0]) (by simp [results, Tryz.results40, go_sem, e0, e1, e2]) rfl ⟨by rw [HW.out]; rfl, ⟨_, by rw [HW.out]; exact HK3.out⟩⟩

end Go.Proofs.YthhjepgcbfmfeaaGreatDoor

namespace Go.Proofs.YthhjepgcbfmfeaaGreatDoor
open Go.RowKit

theorem encode_ascii (c : Int) (h0 : 0 ≤ c) (h1 : c < 128) : (Utf8.encode c).data.toList = [UInt8.ofNat c.toNat] := by
  unfold Utf8.encode Utf8.valid
  have h2 : (decide (0 ≤ c) && decide (c < 55296) || decide (57344 ≤ c) && decide (c ≤ 1114111)) = true := by simp; omega
  simp only [h2, if_true]
  rw [if_pos (by omega)]

theorem encode_high (c : Int) (h : ¬ (0 ≤ c ∧ c < 128)) : ∃ b ∈ (Utf8.encode c).data.toList, 128 ≤ b.toNat := by
  unfold Utf8.encode
  simp only
  obtain ⟨n, hn⟩ : ∃ n, (if Utf8.valid c = true then c.toNat else Utf8.runeError) = n := ⟨_, rfl⟩
  have hn1 : 128 ≤ n ∧ n ≤ 1114111 := by
    rw [← hn]
    unfold Utf8.valid Utf8.runeError
    split
    · rename_i hv; simp at hv; omega
    · omega
  rw [hn, if_neg (by omega)]
  split
  · exact ⟨UInt8.ofNat (192 + n / 64), by simp, by rw [UInt8.toNat_ofNat']; omega⟩
  · split
    · exact ⟨UInt8.ofNat (224 + n / 4096), by simp, by rw [UInt8.toNat_ofNat']; omega⟩
    · exact ⟨UInt8.ofNat (240 + n / 262144), by simp, by rw [UInt8.toNat_ofNat']; omega⟩

theorem prefix_sub {α : Type} [BEq α] [LawfulBEq α] {sub l : List α} (h : sub.isPrefixOf l = true) : ∀ b ∈ sub, b ∈ l := by
  intro b hb
  have := List.isPrefixOf_iff_prefix.1 h
  exact this.subset hb

theorem contains_mem {l sub : List UInt8} (h : Lib.contains l sub = true) : ∀ b ∈ sub, b ∈ l := by
  unfold Lib.contains at h
  replace h := of_decide_eq_true h
  induction l with
  | nil =>
    unfold Lib.index at h
    cases sub with
    | nil => intro b hb; simp at hb
    | cons a r => simp at h
  | cons x r ih =>
    unfold Lib.index at h
    intro b hb
    by_cases hp : sub.isPrefixOf (x :: r) = true
    · exact prefix_sub hp b hb
    · rw [if_neg hp] at h
      by_cases h1 : (Lib.index r sub == -1) = true
      · rw [if_pos h1] at h; omega
      · rw [if_neg h1] at h
        have h3 : Lib.index r sub ≠ -1 := by simpa using h1
        exact List.mem_cons_of_mem _ (ih (by omega) b hb)

def twosT : List UInt8 := [32, 60, 61, 32, 62, 61, 32, 33, 61, 32]
theorem twos_ascii (C D : UInt8) : Lib.contains twosT [32, C, D, 32] = ((C == 60 || C == 62 || C == 33) && D == 61) := by
  unfold Lib.contains twosT
  by_cases h0 : D = 61
  · subst h0
    by_cases h1 : C = 60
    · subst h1; decide
    · by_cases h2 : C = 62
      · subst h2; decide
      · by_cases h3 : C = 33
        · subst h3; decide
        · simp [Lib.index, List.isPrefixOf, h1, h2, h3]
  · simp [Lib.index, List.isPrefixOf, h0]

theorem twos_is (c d : Int) : Lib.contains twosT ((⟨#[32]⟩ : ByteArray) ++ (Utf8.encode c ++ Utf8.encode d) ++ (⟨#[32]⟩ : ByteArray)).data.toList = decide (signN c d = 2) := by
  have e : ((⟨#[32]⟩ : ByteArray) ++ (Utf8.encode c ++ Utf8.encode d) ++ (⟨#[32]⟩ : ByteArray)).data.toList = 32 :: ((Utf8.encode c).data.toList ++ (Utf8.encode d).data.toList ++ [32]) := by simp [ByteArray.data_append]
  have hs : (signN c d = 2) ↔ ((c = 60 ∨ c = 62 ∨ c = 33) ∧ d = 61) := by
    unfold signN
    constructor
    · intro h
      by_cases hq : (c = 60 ∨ c = 62 ∨ c = 33) ∧ d = 61
      · exact hq
      · rw [if_neg hq] at h; split at h <;> omega
    · intro h; rw [if_pos h]
  rw [e, Bool.eq_iff_iff, decide_eq_true_iff, hs]
  by_cases hc : 0 ≤ c ∧ c < 128
  · by_cases hd : 0 ≤ d ∧ d < 128
    · rw [encode_ascii c hc.1 hc.2, encode_ascii d hd.1 hd.2]
      show Lib.contains twosT [32, _, _, 32] = true ↔ _
      rw [twos_ascii]
      have key : ∀ (x : Int) (k : Nat), 0 ≤ x → x < 128 → k < 128 → ((UInt8.ofNat x.toNat == UInt8.ofNat k) = true ↔ x = k) := by
        intro x k a b c
        rw [beq_iff_eq, ← UInt8.toNat_inj, UInt8.toNat_ofNat', UInt8.toNat_ofNat']
        omega
      rw [Bool.and_eq_true, Bool.or_eq_true, Bool.or_eq_true]
      rw [show (60 : UInt8) = UInt8.ofNat 60 from rfl, show (62 : UInt8) = UInt8.ofNat 62 from rfl, show (33 : UInt8) = UInt8.ofNat 33 from rfl, show (61 : UInt8) = UInt8.ofNat 61 from rfl]
      rw [key c 60 hc.1 hc.2 (by omega), key c 62 hc.1 hc.2 (by omega), key c 33 hc.1 hc.2 (by omega), key d 61 hd.1 hd.2 (by omega)]
      omega
    · obtain ⟨b, hb, hb2⟩ := encode_high d hd
      constructor
      · intro h
        have := contains_mem h b (by simp [hb])
        have hall : ∀ x ∈ twosT, x.toNat < 128 := by decide
        have := hall b this
        omega
      · intro h; omega
  · obtain ⟨b, hb, hb2⟩ := encode_high c hc
    constructor
    · intro h
      have := contains_mem h b (by simp [hb])
      have hall : ∀ x ∈ twosT, x.toNat < 128 := by decide
      have := hall b this
      omega
    · intro h; omega

def onesT : List UInt8 := [60, 62, 61, 40, 41, 91, 93, 44, 59]
theorem ones_is (c : Int) (h0 : 33 ≤ c) (h1 : c ≤ 126) : (0 ≤ Lib.indexByte onesT c.toNat.toUInt8) ↔ (c = 60 ∨ c = 62 ∨ c = 61 ∨ c = 40 ∨ c = 41 ∨ c = 91 ∨ c = 93 ∨ c = 44 ∨ c = 59) := by
  obtain ⟨n, rfl⟩ := Int.eq_ofNat_of_zero_le (show 0 ≤ c by omega)
  have key : ∀ k : Fin 127, (0 ≤ Lib.indexByte onesT (k.val : Int).toNat.toUInt8) ↔ ((k.val : Int) = 60 ∨ (k.val : Int) = 62 ∨ (k.val : Int) = 61 ∨ (k.val : Int) = 40 ∨ (k.val : Int) = 41 ∨ (k.val : Int) = 91 ∨ (k.val : Int) = 93 ∨ (k.val : Int) = 44 ∨ (k.val : Int) = 59) := by decide +kernel
  exact key ⟨n, by omega⟩

end Go.Proofs.YthhjepgcbfmfeaaGreatDoor

namespace Go.Proofs.YthhjepgcbfmfeaaGreatDoor
open Go.RowKit

set_option maxHeartbeats 2000000 in
theorem sign_any {w : World} {B b : Nat} {s : ByteArray} {L : List Rn} {lv : Value} {i : Nat} {ov : Value} {T : List Tk} (h : Rd w B b s L lv i ov T) (hm : MaxCell w) (hB : B ≤ w.heap.size) (hL : L.length ≤ 16385) (hT : T.length ≤ 100000)
    (x : Rn) (hx : L[i]? = some x) (hG : ∀ j y, i ≤ j → L[j]? = some y → x.fr ≤ y.to ∧ y.to ≤ s.size) :
    Calls Tryz.prog 36 #[.pointer (some ⟨b, 0, none⟩)] w (Stepped w B b s L lv (signT s L i T)) := by
  have hi := (List.getElem?_eq_some_iff.1 hx).1
  obtain ⟨c, hc⟩ : ∃ c, rAt L i = c := ⟨_, rfl⟩
  obtain ⟨d, hd⟩ : ∃ d, rAt L (i + 1) = d := ⟨_, rfl⟩
  have hS : signT s L i T = if signN c d = 0 then ⟨1, x.line, x.col, i, T⟩ else ⟨0, 0, 0, i + signN c d, T ++ [⟨4, txt s L i (signN c d), 0, x.line, x.col⟩]⟩ := by
    unfold signT; rw [hc, hd, (at_some hx).2.2.2.1, (at_some hx).2.2.2.2]
  have HS := Lib.hid hS
  have htxt : ∀ n y, L[i + (n - 1)]? = some y → txt s L i n = s.extract x.fr y.to := by
    intro n y hy; unfold txt; rw [(at_some hx).2.1, (at_some hy).2.2.1]
  have HT := Lib.hid htxt
  have HGG := Lib.hid hG
  have hd2 : d = 61 → ∃ y, L[i + (2 - 1)]? = some y := by
    intro e
    by_cases hl : i + 1 < L.length
    · exact ⟨_, List.getElem?_eq_getElem hl⟩
    · rw [rAt_none (by omega)] at hd; omega
  have HD2 := Lib.hid hd2
  clear hS htxt hG hd2
  have HR := Lib.hid h
  have HC := Lib.hid (And.intro hc hd)
  have HLO : Hid (2 < w.heap.size) := by obtain ⟨m, hq⟩ := hm; exact World.block_lt_of_cell? w _ hq
  have HM := Lib.hid hm
  have hbl := h.lt
  have HX := Lib.hid hx
  clear h hc hd hm hx
  have hec := encode_size_le c
  have hed := encode_size_le d
  have hz1 : ¬ 9223372036854775807 < (Utf8.encode c).size + (Utf8.encode d).size := by omega
  have hz2 : ¬ 9223372036854775807 < 1 + ((Utf8.encode c).size + (Utf8.encode d).size) := by omega
  have hz3 : ¬ 9223372036854775807 < 1 + ((Utf8.encode c).size + (Utf8.encode d).size) + 1 := by omega
  clear hec hed
  go_enter Tryz.func36, Tryz.ntmps36
  go_wp2_with fail
  refine (rune_any (HR.out.keep ((Below.refl _ _).alloc (Nat.le_refl _) _)) 0 hL (by omega) (by omega)).mono ?_
  rintro e w1 ⟨rfl, hb1⟩
  have HB1 := Lib.hid (((Below.refl _ w).alloc (Nat.le_refl _) _).trans (hb1.mono (by simp)))
  have HF1 := Lib.hid ((FltAt.new w 0 0 0).below hb1 (by simp))
  clear hb1
  rw [Nat.add_zero, HC.out.1]
  go_wp2_with fail
  refine (rune_any (HR.out.keep HB1.out) 1 hL (by omega) (by omega)).mono ?_
  rintro e w2 ⟨rfl, hb2⟩
  have HB2 := Lib.hid (HB1.out.trans (hb2.mono HB1.out.size))
  have HF2 := Lib.hid (HF1.out.below hb2 HF1.out.lt)
  clear hb2 HB1 HF1
  rw [HC.out.2]
  by_cases hbad : c = -1
  · subst hbad
    have HS2 : Hid (signT s L i T = ⟨1, x.line, x.col, i, T⟩) := by
      unfold Hid; rw [HS.out, if_pos]; unfold signN; rw [if_neg (by omega), if_neg (by omega)]
    go_wp2_with fail
    refine (fault_any (HR.out.keep HB2.out) 1 x HX.out hL).mono ?_
    rintro e w3 ⟨rfl, hb3⟩
    have HB3 := Lib.hid (HB2.out.trans (hb3.mono HB2.out.size))
    have HF3 := Lib.hid (HF2.out.below hb3 HF2.out.lt)
    clear hb3
    have HK6 := Lib.hid (((Took.of_rd (HR.out.keep HB3.out)).after HB3.out hB).stored (Nat.le_refl _) hbl hB HF3.out 1 x.line x.col)
    obtain ⟨a0, a1, a2, a3, a4, a5⟩ := HF3.out.facts
    obtain ⟨e0, e1, e2, _, _, _⟩ := (HF3.out.stored 1 x.line x.col).facts
    go_wp2
    exact bodyPost_ret (v := .agg #[.int .i64 1, .int .i64 x.line, .int .i64 x.col]) (by simp [results, Tryz.results36, go_sem, e0, e1, e2]) rfl ⟨by rw [HS2.out]; rfl, ⟨_, by rw [HS2.out]; exact HK6.out⟩⟩
  · obtain ⟨m, hm⟩ := (show MaxCell w2 from HM.out.below HB2.out HLO.out)
    go_wp2_with fail
    refine (Tryz.strings_Contains _ _ m _ (by decide) hm).mono ?_
    rintro e w' ⟨rfl, hw⟩
    subst hw
    rw [show Lib.contains (⟨#[32, 60, 61, 32, 62, 61, 32, 33, 61, 32]⟩ : ByteArray).data.toList _ = _ from twos_is c d]
    clear hm
    by_cases h2 : signN c d = 2
    · rw [decide_eq_true h2]
      have HS2 : Hid (signT s L i T = ⟨0, 0, 0, i + 2, T ++ [⟨4, txt s L i 2, 0, x.line, x.col⟩]⟩) := by
        unfold Hid; rw [HS.out, if_neg (by omega), h2]
      obtain ⟨y, hy⟩ := HD2.out (by
        unfold signN at h2
        by_cases hq : (c = 60 ∨ c = 62 ∨ c = 33) ∧ d = 61
        · exact hq.2
        · rw [if_neg hq] at h2; split at h2 <;> omega)
      obtain ⟨hg1, hg2⟩ := HGG.out _ y (by omega) hy
      have HY := Lib.hid hy
      clear hy h2
      go_wp2_with fail
      refine (take_any (HR.out.keep HB2.out) 4 2 x y HX.out HY.out (by omega) hL hT hg1 hg2 (by have := HB2.out.size; omega)).mono ?_
      rintro e w3 ⟨g3, cap3, rfl, hk⟩
      rw [← HT.out 2 y HY.out] at hk
      have hfr := HF2.out.took hk (by omega)
      have HK := Lib.hid (hk.after HB2.out hB)
      clear hk
      obtain ⟨a0, a1, a2, a3, a4, a5⟩ := hfr.facts
      have HK6 := Lib.hid (HK.out.stored (Nat.le_refl _) hbl hB hfr 0 0 0)
      obtain ⟨e0, e1, e2, _, _, _⟩ := (hfr.stored 0 0 0).facts
      clear hfr
      go_wp2
      exact bodyPost_ret (v := .agg #[.int .i64 0, .int .i64 0, .int .i64 0]) (by simp [results, Tryz.results36, go_sem, e0, e1, e2]) rfl ⟨by rw [HS2.out]; rfl, ⟨_, by rw [HS2.out]; exact HK6.out⟩⟩
    · rw [decide_eq_false h2]
      by_cases h32 : c ≤ 32
      · have HS2 : Hid (signT s L i T = ⟨1, x.line, x.col, i, T⟩) := by
          unfold Hid; rw [HS.out, if_pos]
          unfold signN at h2 ⊢
          by_cases hq : (c = 60 ∨ c = 62 ∨ c = 33) ∧ d = 61
          · omega
          · rw [if_neg hq, if_neg (by omega)]
        clear h2
        go_wp2_with fail
        refine (fault_any (HR.out.keep HB2.out) 1 x HX.out hL).mono ?_
        rintro e w3 ⟨rfl, hb3⟩
        have HB3 := Lib.hid (HB2.out.trans (hb3.mono HB2.out.size))
        have HF3 := Lib.hid (HF2.out.below hb3 HF2.out.lt)
        clear hb3
        have HK6 := Lib.hid (((Took.of_rd (HR.out.keep HB3.out)).after HB3.out hB).stored (Nat.le_refl _) hbl hB HF3.out 1 x.line x.col)
        obtain ⟨a0, a1, a2, a3, a4, a5⟩ := HF3.out.facts
        obtain ⟨e0, e1, e2, _, _, _⟩ := (HF3.out.stored 1 x.line x.col).facts
        go_wp2
        exact bodyPost_ret (v := .agg #[.int .i64 1, .int .i64 x.line, .int .i64 x.col]) (by simp [results, Tryz.results36, go_sem, e0, e1, e2]) rfl ⟨by rw [HS2.out]; rfl, ⟨_, by rw [HS2.out]; exact HK6.out⟩⟩
      · by_cases h126 : 126 < c
        · have HS2 : Hid (signT s L i T = ⟨1, x.line, x.col, i, T⟩) := by
            unfold Hid; rw [HS.out, if_pos]
            unfold signN at h2 ⊢
            by_cases hq : (c = 60 ∨ c = 62 ∨ c = 33) ∧ d = 61
            · omega
            · rw [if_neg hq, if_neg (by omega)]
          clear h2
          go_wp2_with fail
          refine (fault_any (HR.out.keep HB2.out) 1 x HX.out hL).mono ?_
          rintro e w3 ⟨rfl, hb3⟩
          have HB3 := Lib.hid (HB2.out.trans (hb3.mono HB2.out.size))
          have HF3 := Lib.hid (HF2.out.below hb3 HF2.out.lt)
          clear hb3
          have HK6 := Lib.hid (((Took.of_rd (HR.out.keep HB3.out)).after HB3.out hB).stored (Nat.le_refl _) hbl hB HF3.out 1 x.line x.col)
          obtain ⟨a0, a1, a2, a3, a4, a5⟩ := HF3.out.facts
          obtain ⟨e0, e1, e2, _, _, _⟩ := (HF3.out.stored 1 x.line x.col).facts
          go_wp2
          exact bodyPost_ret (v := .agg #[.int .i64 1, .int .i64 x.line, .int .i64 x.col]) (by simp [results, Tryz.results36, go_sem, e0, e1, e2]) rfl ⟨by rw [HS2.out]; rfl, ⟨_, by rw [HS2.out]; exact HK6.out⟩⟩
        · have h33 : 33 ≤ c := by omega
          have h126' : c ≤ 126 := by omega
          have HO := Lib.hid (ones_is c h33 h126')
          by_cases h1 : (c = 60 ∨ c = 62 ∨ c = 61 ∨ c = 40 ∨ c = 41 ∨ c = 91 ∨ c = 93 ∨ c = 44 ∨ c = 59)
          · have hn1 : signN c d = 1 := by
              unfold signN at h2 ⊢
              by_cases hq : (c = 60 ∨ c = 62 ∨ c = 33) ∧ d = 61
              · rw [if_pos hq] at h2; omega
              · rw [if_neg hq, if_pos h1]
            have HS2 : Hid (signT s L i T = ⟨0, 0, 0, i + 1, T ++ [⟨4, txt s L i 1, 0, x.line, x.col⟩]⟩) := by
              unfold Hid; rw [HS.out, if_neg (by omega), hn1]
            obtain ⟨k, hk⟩ : ∃ k : Int, Lib.indexByte (⟨#[60, 62, 61, 40, 41, 91, 93, 44, 59]⟩ : ByteArray).data.toList c.toNat.toUInt8 = k := ⟨_, rfl⟩
            have hk0 : 0 ≤ k := by rw [← hk]; exact HO.out.2 h1
            have HKK := Lib.hid hk
            obtain ⟨y, hy⟩ : ∃ y, L[i + (1 - 1)]? = some y := ⟨x, HX.out⟩
            obtain ⟨hg1, hg2⟩ := HGG.out _ y (by omega) hy
            have HY := Lib.hid hy
            clear hy h2 h1 hk hn1
            go_wp2_with fail
            refine (Tryz.strings_IndexByte _ c _).mono ?_
            rintro e w' ⟨rfl, hw⟩
            subst hw
            rw [HKK.out]
            go_wp2_with fail
            refine (take_any (HR.out.keep HB2.out) 4 1 x y HX.out HY.out (by omega) hL hT hg1 hg2 (by have := HB2.out.size; omega)).mono ?_
            rintro e w3 ⟨g3, cap3, rfl, hk⟩
            rw [← HT.out 1 y HY.out] at hk
            have hfr := HF2.out.took hk (by omega)
            have HK := Lib.hid (hk.after HB2.out hB)
            clear hk
            obtain ⟨a0, a1, a2, a3, a4, a5⟩ := hfr.facts
            have HK6 := Lib.hid (HK.out.stored (Nat.le_refl _) hbl hB hfr 0 0 0)
            obtain ⟨e0, e1, e2, _, _, _⟩ := (hfr.stored 0 0 0).facts
            clear hfr
            go_wp2
            exact bodyPost_ret (v := .agg #[.int .i64 0, .int .i64 0, .int .i64 0]) (by simp [results, Tryz.results36, go_sem, e0, e1, e2]) rfl ⟨by rw [HS2.out]; rfl, ⟨_, by rw [HS2.out]; exact HK6.out⟩⟩
          · have hn1 : signN c d = 0 := by
              unfold signN at h2 ⊢
              by_cases hq : (c = 60 ∨ c = 62 ∨ c = 33) ∧ d = 61
              · rw [if_pos hq] at h2; omega
              · rw [if_neg hq, if_neg h1]
            have HS2 : Hid (signT s L i T = ⟨1, x.line, x.col, i, T⟩) := by
              unfold Hid; rw [HS.out, if_pos hn1]
            obtain ⟨k, hk⟩ : ∃ k : Int, Lib.indexByte (⟨#[60, 62, 61, 40, 41, 91, 93, 44, 59]⟩ : ByteArray).data.toList c.toNat.toUInt8 = k := ⟨_, rfl⟩
            have hk0 : k < 0 := by
              rw [← hk]
              have := fun hh => h1 (HO.out.1 hh)
              exact Int.not_le.1 this
            have HKK := Lib.hid hk
            clear h2 h1 hk hn1
            go_wp2_with fail
            refine (Tryz.strings_IndexByte _ c _).mono ?_
            rintro e w' ⟨rfl, hw⟩
            subst hw
            rw [HKK.out]
            go_wp2_with fail
            refine (fault_any (HR.out.keep HB2.out) 1 x HX.out hL).mono ?_
            rintro e w3 ⟨rfl, hb3⟩
            have HB3 := Lib.hid (HB2.out.trans (hb3.mono HB2.out.size))
            have HF3 := Lib.hid (HF2.out.below hb3 HF2.out.lt)
            clear hb3
            have HK6 := Lib.hid (((Took.of_rd (HR.out.keep HB3.out)).after HB3.out hB).stored (Nat.le_refl _) hbl hB HF3.out 1 x.line x.col)
            obtain ⟨a0, a1, a2, a3, a4, a5⟩ := HF3.out.facts
            obtain ⟨e0, e1, e2, _, _, _⟩ := (HF3.out.stored 1 x.line x.col).facts
            go_wp2
            exact bodyPost_ret (v := .agg #[.int .i64 1, .int .i64 x.line, .int .i64 x.col]) (by simp [results, Tryz.results36, go_sem, e0, e1, e2]) rfl ⟨by rw [HS2.out]; rfl, ⟨_, by rw [HS2.out]; exact HK6.out⟩⟩

end Go.Proofs.YthhjepgcbfmfeaaGreatDoor
