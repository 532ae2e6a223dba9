/- Contract of the token reader's sign. -/
import Derived.Test.YthbbbccefjemmaaDoorTokNum
import Derived.Test.YthbbbccefjemmaaDoorSignPlain
import Derived.Laws.Cover4
namespace Go.Proofs.YthbbbccefjemmaaDoor
open Go.RowKit

set_option maxHeartbeats 2000000 in
theorem sign_any {w : World} {B b : Nat} {s : ByteArray} {L : List Rn} {lv : Value} {i : Nat} {ov : Value} {T : List Tk} (h : Rd w B b s L lv i ov T) (hm : MaxCell w) (hB : B ≤ w.heap.size) (hL : L.length ≤ 16385) (hT : T.length ≤ 100000)
    (x : Rn) (hx : L[i]? = some x) (hG : ∀ j y, i ≤ j → L[j]? = some y → x.fr ≤ y.to ∧ y.to ≤ s.size) :
    Calls Tryd.prog 26 #[.pointer (some ⟨b, 0, none⟩)] w (Stepped w B b s L lv (signT s L i T)) := by
  have hi := (List.getElem?_eq_some_iff.1 hx).1
  obtain ⟨c, hc⟩ : ∃ c, rAt L i = c := ⟨_, rfl⟩
  obtain ⟨d, hd⟩ : ∃ d, rAt L (i + 1) = d := ⟨_, rfl⟩
  have hS : signT s L i T = if signN c d = 0 then ⟨1, x.line, x.col, i, T⟩ else ⟨0, 0, 0, i + signN c d, T ++ [⟨4, txt s L i (signN c d), 0, x.line, x.col⟩]⟩ := by
    unfold signT; rw [hc, hd, (at_some hx).2.2.2.1, (at_some hx).2.2.2.2]
  have HS := Lib.hid hS
  have htxt : ∀ n y, L[i + (n - 1)]? = some y → txt s L i n = s.extract x.fr y.to := by
    intro n y hy; unfold txt; rw [(at_some hx).2.1, (at_some hy).2.2.1]
  have HT := Lib.hid htxt
  have HGG := Lib.hid hG
  have hd2 : d = 61 → ∃ y, L[i + (2 - 1)]? = some y := by
    intro e
    by_cases hl : i + 1 < L.length
    · exact ⟨_, List.getElem?_eq_getElem hl⟩
    · rw [rAt_none (by omega)] at hd; omega
  have HD2 := Lib.hid hd2
  clear hS htxt hG hd2
  have HR := Lib.hid h
  have HC := Lib.hid (And.intro hc hd)
  have HM := Lib.hid hm
  have hbl := h.lt
  have HX := Lib.hid hx
  clear h hc hd hm hx
  have hec := encode_size_le c
  have hed := encode_size_le d
  have hz1 : ¬ 9223372036854775807 < (Utf8.encode c).size + (Utf8.encode d).size := by omega
  have hz2 : ¬ 9223372036854775807 < 1 + ((Utf8.encode c).size + (Utf8.encode d).size) := by omega
  have hz3 : ¬ 9223372036854775807 < 1 + ((Utf8.encode c).size + (Utf8.encode d).size) + 1 := by omega
  clear hec hed
  go_enter Tryd.func26, Tryd.ntmps26
  go_wp2_with fail
  refine (rune_any (HR.out.keep ((Below.refl _ _).alloc (Nat.le_refl _) _)) 0 hL (by omega) (by omega)).mono ?_
  rintro e w1 ⟨rfl, hb1⟩
  have HB1 := Lib.hid (((Below.refl _ w).alloc (Nat.le_refl _) _).trans (hb1.mono (by simp)))
  have HF1 := Lib.hid ((FltAt.new w 0 0 0).below hb1 (by simp))
  clear hb1
  rw [Nat.add_zero, HC.out.1]
  go_wp2_with fail
  refine (rune_any (HR.out.keep HB1.out) 1 hL (by omega) (by omega)).mono ?_
  rintro e w2 ⟨rfl, hb2⟩
  have HB2 := Lib.hid (HB1.out.trans (hb2.mono HB1.out.size))
  have HF2 := Lib.hid (HF1.out.below hb2 HF1.out.lt)
  clear hb2 HB1 HF1
  rw [HC.out.2]
  by_cases hbad : c = -1
  · subst hbad
    have HS2 : Hid (signT s L i T = ⟨1, x.line, x.col, i, T⟩) := by
      unfold Hid; rw [HS.out, if_pos]; unfold signN; rw [if_neg (by omega), if_neg (by omega)]
    go_wp2_with fail
    refine (fault_any (HR.out.keep HB2.out) 1 x HX.out hL).mono ?_
    rintro e w3 ⟨rfl, hb3⟩
    have HB3 := Lib.hid (HB2.out.trans (hb3.mono HB2.out.size))
    have HF3 := Lib.hid (HF2.out.below hb3 HF2.out.lt)
    clear hb3
    have HK6 := Lib.hid (((Took.of_rd (HR.out.keep HB3.out)).after HB3.out hB).stored (Nat.le_refl _) hbl hB HF3.out 1 x.line x.col)
    obtain ⟨a0, a1, a2, a3, a4, a5⟩ := HF3.out.facts
    obtain ⟨e0, e1, e2, _, _, _⟩ := (HF3.out.stored 1 x.line x.col).facts
    go_wp2
    exact bodyPost_ret (v := .agg #[.int .i64 1, .int .i64 x.line, .int .i64 x.col]) (by simp [results, Tryd.results26, go_sem, e0, e1, e2]) rfl ⟨by rw [HS2.out]; rfl, ⟨_, by rw [HS2.out]; exact HK6.out⟩⟩
  · obtain ⟨m, hm⟩ := (show MaxCell w2 from HM.out.below HB2.out (by omega))
    go_wp2_with fail
    refine (Tryd.strings_Contains _ _ m _ (by decide) hm).mono ?_
    rintro e w' ⟨rfl, hw⟩
    subst hw
    rw [show Lib.contains (⟨#[32, 60, 61, 32, 62, 61, 32, 33, 61, 32]⟩ : ByteArray).data.toList _ = _ from twos_is c d]
    clear hm
    by_cases h2 : signN c d = 2
    · rw [decide_eq_true h2]
      have HS2 : Hid (signT s L i T = ⟨0, 0, 0, i + 2, T ++ [⟨4, txt s L i 2, 0, x.line, x.col⟩]⟩) := by
        unfold Hid; rw [HS.out, if_neg (by omega), h2]
      obtain ⟨y, hy⟩ := HD2.out (by
        unfold signN at h2
        by_cases hq : (c = 60 ∨ c = 62 ∨ c = 33) ∧ d = 61
        · exact hq.2
        · rw [if_neg hq] at h2; split at h2 <;> omega)
      obtain ⟨hg1, hg2⟩ := HGG.out _ y (by omega) hy
      have HY := Lib.hid hy
      clear hy h2
      go_wp2_with fail
      refine (take_any (HR.out.keep HB2.out) 4 2 x y HX.out HY.out (by omega) hL hT hg1 hg2 (by have := HB2.out.size; omega)).mono ?_
      rintro e w3 ⟨g3, cap3, rfl, hk⟩
      rw [← HT.out 2 y HY.out] at hk
      have hfr := HF2.out.took hk (by omega)
      have HK := Lib.hid (hk.after HB2.out hB)
      clear hk
      obtain ⟨a0, a1, a2, a3, a4, a5⟩ := hfr.facts
      have HK6 := Lib.hid (HK.out.stored (Nat.le_refl _) hbl hB hfr 0 0 0)
      obtain ⟨e0, e1, e2, _, _, _⟩ := (hfr.stored 0 0 0).facts
      clear hfr
      go_wp2
      exact bodyPost_ret (v := .agg #[.int .i64 0, .int .i64 0, .int .i64 0]) (by simp [results, Tryd.results26, go_sem, e0, e1, e2]) rfl ⟨by rw [HS2.out]; rfl, ⟨_, by rw [HS2.out]; exact HK6.out⟩⟩
    · rw [decide_eq_false h2]
      by_cases h32 : c ≤ 32
      · have HS2 : Hid (signT s L i T = ⟨1, x.line, x.col, i, T⟩) := by
          unfold Hid; rw [HS.out, if_pos]
          unfold signN at h2 ⊢
          by_cases hq : (c = 60 ∨ c = 62 ∨ c = 33) ∧ d = 61
          · omega
          · rw [if_neg hq, if_neg (by omega)]
        clear h2
        go_wp2_with fail
        refine (fault_any (HR.out.keep HB2.out) 1 x HX.out hL).mono ?_
        rintro e w3 ⟨rfl, hb3⟩
        have HB3 := Lib.hid (HB2.out.trans (hb3.mono HB2.out.size))
        have HF3 := Lib.hid (HF2.out.below hb3 HF2.out.lt)
        clear hb3
        have HK6 := Lib.hid (((Took.of_rd (HR.out.keep HB3.out)).after HB3.out hB).stored (Nat.le_refl _) hbl hB HF3.out 1 x.line x.col)
        obtain ⟨a0, a1, a2, a3, a4, a5⟩ := HF3.out.facts
        obtain ⟨e0, e1, e2, _, _, _⟩ := (HF3.out.stored 1 x.line x.col).facts
        go_wp2
        exact bodyPost_ret (v := .agg #[.int .i64 1, .int .i64 x.line, .int .i64 x.col]) (by simp [results, Tryd.results26, go_sem, e0, e1, e2]) rfl ⟨by rw [HS2.out]; rfl, ⟨_, by rw [HS2.out]; exact HK6.out⟩⟩
      · by_cases h126 : 126 < c
        · have HS2 : Hid (signT s L i T = ⟨1, x.line, x.col, i, T⟩) := by
            unfold Hid; rw [HS.out, if_pos]
            unfold signN at h2 ⊢
            by_cases hq : (c = 60 ∨ c = 62 ∨ c = 33) ∧ d = 61
            · omega
            · rw [if_neg hq, if_neg (by omega)]
          clear h2
          go_wp2_with fail
          refine (fault_any (HR.out.keep HB2.out) 1 x HX.out hL).mono ?_
          rintro e w3 ⟨rfl, hb3⟩
          have HB3 := Lib.hid (HB2.out.trans (hb3.mono HB2.out.size))
          have HF3 := Lib.hid (HF2.out.below hb3 HF2.out.lt)
          clear hb3
          have HK6 := Lib.hid (((Took.of_rd (HR.out.keep HB3.out)).after HB3.out hB).stored (Nat.le_refl _) hbl hB HF3.out 1 x.line x.col)
          obtain ⟨a0, a1, a2, a3, a4, a5⟩ := HF3.out.facts
          obtain ⟨e0, e1, e2, _, _, _⟩ := (HF3.out.stored 1 x.line x.col).facts
          go_wp2
          exact bodyPost_ret (v := .agg #[.int .i64 1, .int .i64 x.line, .int .i64 x.col]) (by simp [results, Tryd.results26, go_sem, e0, e1, e2]) rfl ⟨by rw [HS2.out]; rfl, ⟨_, by rw [HS2.out]; exact HK6.out⟩⟩
        · have h33 : 33 ≤ c := by omega
          have h126' : c ≤ 126 := by omega
          have HO := Lib.hid (ones_is c h33 h126')
          by_cases h1 : (c = 60 ∨ c = 62 ∨ c = 61 ∨ c = 40 ∨ c = 41 ∨ c = 91 ∨ c = 93 ∨ c = 44 ∨ c = 59)
          · have hn1 : signN c d = 1 := by
              unfold signN at h2 ⊢
              by_cases hq : (c = 60 ∨ c = 62 ∨ c = 33) ∧ d = 61
              · rw [if_pos hq] at h2; omega
              · rw [if_neg hq, if_pos h1]
            have HS2 : Hid (signT s L i T = ⟨0, 0, 0, i + 1, T ++ [⟨4, txt s L i 1, 0, x.line, x.col⟩]⟩) := by
              unfold Hid; rw [HS.out, if_neg (by omega), hn1]
            obtain ⟨k, hk⟩ : ∃ k : Int, Lib.indexByte (⟨#[60, 62, 61, 40, 41, 91, 93, 44, 59]⟩ : ByteArray).data.toList c.toNat.toUInt8 = k := ⟨_, rfl⟩
            have hk0 : 0 ≤ k := by rw [← hk]; exact HO.out.2 h1
            have HKK := Lib.hid hk
            obtain ⟨y, hy⟩ : ∃ y, L[i + (1 - 1)]? = some y := ⟨x, HX.out⟩
            obtain ⟨hg1, hg2⟩ := HGG.out _ y (by omega) hy
            have HY := Lib.hid hy
            clear hy h2 h1 hk hn1
            go_wp2_with fail
            refine (Tryd.strings_IndexByte _ c _).mono ?_
            rintro e w' ⟨rfl, hw⟩
            subst hw
            rw [HKK.out]
            go_wp2_with fail
            refine (take_any (HR.out.keep HB2.out) 4 1 x y HX.out HY.out (by omega) hL hT hg1 hg2 (by have := HB2.out.size; omega)).mono ?_
            rintro e w3 ⟨g3, cap3, rfl, hk⟩
            rw [← HT.out 1 y HY.out] at hk
            have hfr := HF2.out.took hk (by omega)
            have HK := Lib.hid (hk.after HB2.out hB)
            clear hk
            obtain ⟨a0, a1, a2, a3, a4, a5⟩ := hfr.facts
            have HK6 := Lib.hid (HK.out.stored (Nat.le_refl _) hbl hB hfr 0 0 0)
            obtain ⟨e0, e1, e2, _, _, _⟩ := (hfr.stored 0 0 0).facts
            clear hfr
            go_wp2
            exact bodyPost_ret (v := .agg #[.int .i64 0, .int .i64 0, .int .i64 0]) (by simp [results, Tryd.results26, go_sem, e0, e1, e2]) rfl ⟨by rw [HS2.out]; rfl, ⟨_, by rw [HS2.out]; exact HK6.out⟩⟩
          · have hn1 : signN c d = 0 := by
              unfold signN at h2 ⊢
              by_cases hq : (c = 60 ∨ c = 62 ∨ c = 33) ∧ d = 61
              · rw [if_pos hq] at h2; omega
              · rw [if_neg hq, if_neg h1]
            have HS2 : Hid (signT s L i T = ⟨1, x.line, x.col, i, T⟩) := by
              unfold Hid; rw [HS.out, if_pos hn1]
            obtain ⟨k, hk⟩ : ∃ k : Int, Lib.indexByte (⟨#[60, 62, 61, 40, 41, 91, 93, 44, 59]⟩ : ByteArray).data.toList c.toNat.toUInt8 = k := ⟨_, rfl⟩
            have hk0 : k < 0 := by
              rw [← hk]
              have := fun hh => h1 (HO.out.1 hh)
              exact Int.not_le.1 this
            have HKK := Lib.hid hk
            clear h2 h1 hk hn1
            go_wp2_with fail
            refine (Tryd.strings_IndexByte _ c _).mono ?_
            rintro e w' ⟨rfl, hw⟩
            subst hw
            rw [HKK.out]
            go_wp2_with fail
            refine (fault_any (HR.out.keep HB2.out) 1 x HX.out hL).mono ?_
            rintro e w3 ⟨rfl, hb3⟩
            have HB3 := Lib.hid (HB2.out.trans (hb3.mono HB2.out.size))
            have HF3 := Lib.hid (HF2.out.below hb3 HF2.out.lt)
            clear hb3
            have HK6 := Lib.hid (((Took.of_rd (HR.out.keep HB3.out)).after HB3.out hB).stored (Nat.le_refl _) hbl hB HF3.out 1 x.line x.col)
            obtain ⟨a0, a1, a2, a3, a4, a5⟩ := HF3.out.facts
            obtain ⟨e0, e1, e2, _, _, _⟩ := (HF3.out.stored 1 x.line x.col).facts
            go_wp2
            exact bodyPost_ret (v := .agg #[.int .i64 1, .int .i64 x.line, .int .i64 x.col]) (by simp [results, Tryd.results26, go_sem, e0, e1, e2]) rfl ⟨by rw [HS2.out]; rfl, ⟨_, by rw [HS2.out]; exact HK6.out⟩⟩

end Go.Proofs.YthbbbccefjemmaaDoor
