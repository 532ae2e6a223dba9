/- Contract of the token reader's number. -/
import Derived.Test.YthbbbccefjemmaaDoorTokWord
namespace Go.Proofs.YthbbbccefjemmaaDoor
open Go.RowKit

theorem value_any (t : ByteArray) (w : World) (hs : t.size ≤ 4294967296) (h0 : 0 < t.size) (hd : if (t[0]'h0).toNat = 45 then DigT (t.extract 1 t.size) else DigT t) :
    Calls Tryd.prog 50 #[.string t] w fun e w' => e = .returned (.tuple #[.int .i64 (valN t (decide ((t[0]'h0).toNat = 45))).1, .bool (valN t (decide ((t[0]'h0).toNat = 45))).2]) ∧ w = w' := by
  by_cases h : (t[0]'h0).toNat = 45
  · rw [decide_eq_true h]; rw [if_pos h] at hd; exact value_neg t w hs h0 h hd
  · rw [decide_eq_false h]; rw [if_neg h] at hd; exact value_pos t w hs h0 hd

set_option maxHeartbeats 2000000 in
theorem number_any {w : World} {B b : Nat} {s : ByteArray} {L : List Rn} {lv : Value} {i : Nat} {ov : Value} {T : List Tk} (h : Rd w B b s L lv i ov T) (hB : B ≤ w.heap.size) (hL : L.length ≤ 16385) (hT : T.length ≤ 100000) (hs : s.size ≤ 4294967200)
    (x y : Rn) (hx : L[i]? = some x) (hy : L[i + (numN L i - 1)]? = some y) (hn : 1 ≤ numN L i) (hxy : x.fr ≤ y.to) (hys : y.to ≤ s.size) (h0 : 0 < (txt s L i (numN L i)).size)
    (hd : if ((txt s L i (numN L i))[0]'h0).toNat = 45 then DigT ((txt s L i (numN L i)).extract 1 (txt s L i (numN L i)).size) else DigT (txt s L i (numN L i))) (hq : (((txt s L i (numN L i))[0]'h0).toNat = 45) = (rAt L i = 45)) :
    Calls Tryd.prog 30 #[.pointer (some ⟨b, 0, none⟩)] w (Stepped w B b s L lv (numbT s L i T)) := by
  have hi := (List.getElem?_eq_some_iff.1 hx).1
  have hR : rowE digitB L (i + 1) - i = numN L i := rfl
  have hte : s.extract x.fr y.to = txt s L i (numN L i) := by unfold txt; rw [(at_some hx).2.1, (at_some hy).2.2.1]
  have hts : (txt s L i (numN L i)).size ≤ s.size := by rw [← hte, ByteArray.size_extract]; omega
  have hval := fun W => value_any (txt s L i (numN L i)) W (by omega) h0 hd
  have hdq : decide (((txt s L i (numN L i))[0]'h0).toNat = 45) = decide (rAt L i = 45) := by simp only [hq]
  rw [hdq] at hval
  have hw : numbT s L i T = ⟨if (valN (txt s L i (numN L i)) (decide (rAt L i = 45))).2 then 0 else 2, x.line, x.col, i + numN L i, T ++ [⟨3, txt s L i (numN L i), (valN (txt s L i (numN L i)) (decide (rAt L i = 45))).1, x.line, x.col⟩]⟩ := by
    unfold numbT numVal; rw [(at_some hx).2.2.2.1, (at_some hx).2.2.2.2]
  have hov : (valN (txt s L i (numN L i)) (decide (rAt L i = 45))).2 = false → (valN (txt s L i (numN L i)) (decide (rAt L i = 45))).1 = 0 := by
    unfold valN; split <;> split <;> simp
  obtain ⟨vv, hvv⟩ : ∃ vv, valN (txt s L i (numN L i)) (decide (rAt L i = 45)) = vv := ⟨_, rfl⟩
  obtain ⟨v, ok⟩ := vv
  rw [hvv] at hval hw hov
  clear hd hq hdq hvv
  obtain ⟨t, ht⟩ : ∃ t, txt s L i (numN L i) = t := ⟨_, rfl⟩
  obtain ⟨n, hnn⟩ : ∃ n, numN L i = n := ⟨_, rfl⟩
  rw [hnn] at hn hy hR
  rw [ht] at hw hval hte hts
  rw [hnn] at hw
  clear ht h0
  have HW := Lib.hid hw
  have HV := Lib.hid hval
  have HR := Lib.hid h
  have HI := Lib.hid (And.intro hR hte)
  have HX := Lib.hid (And.intro hx hy)
  have HO := Lib.hid hov
  have hbl := h.lt
  clear h hR hte hx hy hw hval hnn hov
  go_enter Tryd.func30, Tryd.ntmps30
  go_wp2_with fail
  refine (fault_any (HR.out.keep ((Below.refl _ _).alloc (Nat.le_refl _) _)) 0 x HX.out.1 hL).mono ?_
  rintro e w1 ⟨rfl, hb1⟩
  have HB1 := Lib.hid (((Below.refl _ w).alloc (Nat.le_refl _) _).trans (hb1.mono (by simp)))
  have HF1 := Lib.hid ((FltAt.new w 0 0 0).below hb1 (by simp))
  clear hb1
  go_wp2_with fail
  refine (row_digitB (HR.out.keep (HB1.out.alloc HB1.out.size _)) 1 hL (by omega) (by omega)).mono ?_
  rintro e w2 ⟨rfl, hb2⟩
  have HB2 := Lib.hid ((HB1.out.alloc HB1.out.size _).trans (hb2.mono (by have := HB1.out.size; simp; omega)))
  have HF2 := Lib.hid ((HF1.out.alloc _).below hb2 (by have := HF1.out.lt; simp; omega))
  have HG2 := Lib.hid ((FltAt.new w1 0 x.line x.col).below hb2 (by simp))
  have hw1 := HB1.out.size
  clear hb2 HB1 HF1
  rw [HI.out.1]
  go_wp2_with fail
  refine (take_any (HR.out.keep HB2.out) 3 n x y HX.out.1 HX.out.2 hn hL hT hxy hys (by have := HB2.out.size; omega)).mono ?_
  rintro e w3 ⟨g3, cap3, rfl, hk⟩
  rw [HI.out.2] at hk
  have hfb := HG2.out.took hk (by omega)
  have hfr := HF2.out.took hk (by omega)
  have HK := Lib.hid (hk.after HB2.out hB)
  obtain ⟨_, c1, c2, _, f2, hgl, hgn⟩ := hk.last
  have hgb := hgn _ _ _ _ hfr
  clear hk HF2 HG2 hgn
  obtain ⟨a0, a1, a2, a3, a4, a5⟩ := hfr.facts
  obtain ⟨b0, b1, b2, b3, b4, b5⟩ := hfb.facts
  have HFR := Lib.hid hfr
  clear hfr hfb
  go_wp2_with fail
  refine (HV.out _).mono ?_
  rintro e w' ⟨rfl, rfl⟩
  cases ok
  · have HV0 := Lib.hid (HO.out rfl)
    have HK6 := Lib.hid (HK.out.stored (Nat.le_refl _) hbl hB HFR.out 2 x.line x.col)
    obtain ⟨e0, e1, e2, _, _, _⟩ := (HFR.out.stored 2 x.line x.col).facts
    go_wp2
    exact bodyPost_ret (v := .agg #[.int .i64 2, .int .i64 x.line, .int .i64 x.col]) (by simp [results, Tryd.results30, go_sem, e0, e1, e2]) rfl ⟨by rw [HW.out]; rfl, ⟨_, by rw [HW.out]; show Took _ _ _ _ _ _ _ _ _ (T ++ [⟨3, t, v, _, _⟩]); rw [HV0.out]; exact HK6.out⟩⟩
  · have HK2 := Lib.hid (HK.out.setTok (j := 2) (u := .int .i64 v) (y := ⟨3, t, v, x.line, x.col⟩) (by omega) rfl)
    have hf2 := HFR.out.setOther (j := T.length * 5 + 2) hgb (.int .i64 v)
    obtain ⟨d0, d1, d2, d3, d4, d5⟩ := hf2.facts
    have HK3 := Lib.hid (HK2.out.stored (Nat.le_refl _) hbl hB hf2 0 0 0)
    obtain ⟨e0, e1, e2, _, _, _⟩ := (hf2.stored 0 0 0).facts
    clear hf2
    go_wp2
    exact bodyPost_ret (v := .agg #[.int .i64 0, .int .i64 0, .int .i64 0]) (by simp [results, Tryd.results30, go_sem, e0, e1, e2]) rfl ⟨by rw [HW.out]; rfl, ⟨_, by rw [HW.out]; exact HK3.out⟩⟩

end Go.Proofs.YthbbbccefjemmaaDoor
