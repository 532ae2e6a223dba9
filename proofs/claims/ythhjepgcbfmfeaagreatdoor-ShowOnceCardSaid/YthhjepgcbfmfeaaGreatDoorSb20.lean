/- Contract of the formulas' reader: sign (printed by gen_sign2.py). -/
import Derived.Test.YthhjepgcbfmfeaaGreatDoorSb19

namespace Go.Proofs.YthhjepgcbfmfeaaGreatDoor
open Go.RowKit

set_option maxHeartbeats 1000000 in
theorem sign_zero : SignOK 0 := by
  intro w B b lv T i prop ov O line col d h hB hlo hhi hO hd
  have HR := Lib.hid h
  have hd24 : (24 : Int) < d := by omega
  have HD := Lib.hid hd
  clear h hd
  go_enter Tryz.func45, Tryz.ntmps45
  go_wp2_with fail
  refine (cfail_any HR.out hB 5 rfl).mono ?_
  rintro e w1 ⟨rfl, hc⟩
  have HF := Lib.hid hc
  clear hc
  go_wp2
  go_ret
  exact CRes.bad (show (bothP T prop 0).1 i = .bad 5 (tkAt T i).line (tkAt T i).col from rfl) rfl HF.out

theorem temp_bd (s : ByteArray) : 0 ≤ tempN s ∧ tempN s ≤ 24 := by
  unfold tempN
  repeat' split
  all_goals omega

theorem CRes.cat {w w1 w' : World} {B b : Nat} {lv : Value} {T : List Tk} {prop p2 : Bool} {O O2 : List It} {p : PR} {e : Ending} {i : Int} {ov : Value} {er line col : Int} (h : CRes w1 B b lv T prop O p e w') (k : CTook w w1 B b lv T i p2 ov O2 er line col) : CRes w B b lv T prop O p e w' := by
  cases p with
  | ok o a => obtain ⟨he, ov, l, c, h⟩ := h; exact ⟨he, ov, l, c, k.trans h⟩
  | bad er l c => obtain ⟨he, ov, O', i', h⟩ := h; exact ⟨he, ov, O', i', k.trans h⟩

/-- where sign stands behind its token -/
structure SgK (w W : World) (B b : Nat) (lv : Value) (T : List Tk) (i : Int) (prop : Bool) (ov : Value) (O : List It) (er line col : Int) (k : Nat) (x : Tk) : Prop where
  tk : CTook w W B b lv T i prop ov O er line col
  tb : TkB W k x
theorem SgK.below {w W W' : World} {B b : Nat} {lv : Value} {T : List Tk} {i : Int} {prop : Bool} {ov : Value} {O : List It} {er line col : Int} {k : Nat} {x : Tk} (h : SgK w W B b lv T i prop ov O er line col k x) (hb : Below W.heap.size W W') (hB : B ≤ w.heap.size) : SgK w W' B b lv T i prop ov O er line col k x :=
  ⟨h.tk.then hb hB, (hb.block k h.tb.lt).trans h.tb⟩
theorem SgK.moved {w W : World} {B b : Nat} {lv : Value} {T : List Tk} {i : Int} {prop : Bool} {ov : Value} {O : List It} {er line col : Int} {k : Nat} {x : Tk} (h : SgK w W B b lv T i prop ov O er line col k x) (hk : b ≠ k) (j : Int) : SgK w (W.setCell ⟨b, 1, none⟩ (.int .i64 j)) B b lv T j prop ov O er line col k x :=
  ⟨h.tk.moved j, h.tb.setOther hk _⟩

set_option maxRecDepth 100000 in
set_option maxHeartbeats 8000000 in
theorem sign_succ (n : Nat) (hn : n ≤ 24) (hf : FormOK n) (hs : SignOK n) : SignOK (n + 1) := by
  intro w B b lv T i prop ov O line col d h hB hlo hhi hO hd
  have HR := Lib.hid h
  have hbl := h.lt
  have hTl := h.len
  have HFO := Lib.hid hf
  have HSO := Lib.hid hs
  have HGF := Lib.hid (both_good T prop n).2
  have HGS := Lib.hid (both_good T prop n).1
  have HTOP : Hid ((bothP T prop (n + 1)).1 i = signP T prop (bothP T prop n).1 (bothP T prop n).2 i) := rfl
  obtain ⟨form, hform⟩ : ∃ f, (bothP T prop n).2 = f := ⟨_, rfl⟩
  obtain ⟨sg, hsg⟩ : ∃ f, (bothP T prop n).1 = f := ⟨_, rfl⟩
  have HFM := Lib.hid hform
  have HSM := Lib.hid hsg
  rw [HTOP.out]
  unfold Hid at HGF HGS
  rw [hform] at HGF ⊢
  rw [hsg] at HGS ⊢
  have HGF := Lib.hid HGF; have HGS := Lib.hid HGS
  obtain ⟨x, hx⟩ : ∃ x, tkAt T i = x := ⟨_, rfl⟩
  have HX := Lib.hid hx
  have HN := Lib.hid (now_any h)
  have HUN : ∀ op, Hid (∀ (W : World) (l c : Int) (ov : Value), Cr W B b lv T i prop ov O 0 l c → B ≤ W.heap.size → 0 ≤ i → i ≤ 1000000 → (O.length : Int) ≤ i → Calls Tryz.prog 66 #[.pointer (some ⟨b, 0, none⟩), .int .i64 d, .int .i64 op] W (CRes W B b lv T prop O (untilP T form op i))) := fun op => by
    intro W l c ov h1 h2 h3 h4 h5
    have := until_any n hn hf h1 h2 h3 h4 h5 d op (by omega)
    rwa [hform] at this
  have hd0 : 0 ≤ d := by omega
  have hd1 : d ≤ 24 := by omega
  have HDN := Lib.hid (show d + 1 = 25 - (n : Int) by omega)
  have HNN := Lib.hid hn
  have q40 := eq_lit [40] x.text
  have qnot := eq_lit [110, 111, 116] x.text
  have qA := eq_lit [65] x.text
  have qE := eq_lit [69] x.text
  have HK0 : Hid (∀ w1, Below w.heap.size w w1 → SgK w (w1.alloc (.cells #[.int .i64 x.kind, .string x.text, .int .i64 x.num, .int .i64 x.line, .int .i64 x.col] 54)) B b lv T i prop ov O 0 line col w1.heap.size x) := fun w1 hb1 =>
    ⟨((CTook.of_rd HR.out).then hb1 hB).alloc hB _, heap_alloc_new w1 _⟩
  clear h hf hs hform hsg hx hd hn HTOP
  have ht := temp_bd x.text

  by_cases h40 : isTk T i 4 sOpen = true
  · have HU : Hid (signP T prop sg form i = (form (i + 1)).also fun o a => needP T a 4 sClose fun b => .ok o b) := by unfold Hid signP; rw [if_pos h40]
    have hin := isTk_in h40 (by decide)
    have h40' := h40
    unfold isTk at h40'
    rw [HX.out] at h40'
    simp only [Bool.and_eq_true, decide_eq_true_eq] at h40'
    have hk4 : (x.kind == 4) = true := by rw [beq_iff_eq]; exact h40'.1
    rw [decide_eq_true (by exact h40'.2)] at q40
    clear h40 h40' qnot qA qE ht
    go_enter Tryz.func45, Tryz.ntmps45
    go_wp2_with fail
    refine HN.out.mono ?_
    rintro e w1 ⟨rfl, hb1⟩
    rw [HX.out]
    unfold tokV
    have hc0 := (CTook.of_rd HR.out).then hb1 hB
    obtain ⟨_, c1, _, _, _, _, _⟩ := hc0.rd.facts
    obtain ⟨f1, _, _, _, _⟩ := hc0.rd.free
    have hbl1 := hc0.rd.lt
    have hs1 := hb1.size
    have HM := Lib.hid ((hc0.moved (i + 1)).alloc hB (.cells #[.int .i64 x.kind, .string x.text, .int .i64 x.num, .int .i64 x.line, .int .i64 x.col] 54))
    clear hb1 hc0
    go_wp2_with fail
    cases hp : form (i + 1) with
    | bad er l c =>
      have HE := Lib.hid hp
      clear hp
      refine (HFO.out _ B b lv T (i + 1) _ ov O line col (d + 1) HM.out.rd (HM.out.size hB) (by omega) (by omega) (by omega) HDN.out).mono ?_
      rw [HFM.out, HE.out]
      rintro e w4 ⟨rfl, ov4, O4, i4, htk⟩
      have HF := Lib.hid (HM.out.trans htk)
      clear htk
      go_wp2
      go_ret
      exact CRes.bad (HU.out.trans (also_of_bad HE.out)) rfl HF.out
    | ok o1 a1 =>
      have hg1 := HGF.out _ _ _ hp
      have HE := Lib.hid hp
      unfold Hid at HU
      rw [also_of_ok hp] at HU
      have HU := Lib.hid HU
      clear hp
      refine (HFO.out _ B b lv T (i + 1) _ ov O line col (d + 1) HM.out.rd (HM.out.size hB) (by omega) (by omega) (by omega) HDN.out).mono ?_
      rw [HFM.out, HE.out]
      rintro e w4 ⟨rfl, ov4, l4, c4, htk⟩
      have HC4 := Lib.hid (HM.out.trans htk)
      clear htk
      go_wp2_with fail
      obtain ⟨qa, hqa⟩ : ∃ q, isTk T a1 4 sClose = q := ⟨_, rfl⟩
      have HQA := Lib.hid hqa
      clear hqa
      refine (need_any HC4.out.rd (HC4.out.size hB) 4 _ (by omega) (by omega)).mono ?_
      rw [show isTk T a1 4 ⟨#[41]⟩ = qa from HQA.out]
      rintro e w5 ⟨rfl, hok, hbad⟩
      cases qa
      · have HF := Lib.hid (HC4.out.trans (hbad rfl))
        clear hok hbad
        go_wp2
        go_ret
        exact CRes.bad (HU.out.trans (needP_bad HQA.out)) rfl HF.out
      · obtain ⟨l5, c5, ht5⟩ := hok rfl
        have HF := Lib.hid (HC4.out.trans ht5)
        clear hok hbad ht5
        go_wp2
        go_ret
        exact CRes.ok (HU.out.trans (needP_ok HQA.out)) rfl HF.out
  have h40' : (x.kind == 4) = false ∨ ((x.kind == 4) = true ∧ (x.text.toList == [40]) = false) := by
    by_cases hk : x.kind = 4
    · refine .inr ⟨by rw [beq_iff_eq]; exact hk, ?_⟩
      rw [q40]
      refine decide_eq_false fun e => h40 ?_
      unfold isTk; rw [HX.out, decide_eq_true hk, decide_eq_true (by exact e)]; rfl
    · exact .inl (beq_eq_false_iff_ne.2 hk)
  by_cases hk2 : x.kind = 2
  · have hk4 : (x.kind == 4) = false := by rw [hk2]; rfl
    have hk2b : (x.kind == 2) = true := by rw [beq_iff_eq]; exact hk2
    have hk2n : (x.kind != 2) = false := by rw [hk2]; rfl
    have hin := tkAt_in (T := T) (i := i) (by rw [HX.out]; omega)
    have H1 := Lib.hid (show ¬ isTk T i 4 sOpen = true from h40)
    have H2 := Lib.hid (show ¬ (tkAt T i).kind ≠ 2 by rw [HX.out]; omega)
    clear h40 h40' hk2 q40
    obtain ⟨t, htt⟩ : ∃ t, tempN x.text = t := ⟨_, rfl⟩
    have HT := Lib.hid htt
    have HTA : Hid (x.text = wA → t = 0) := fun e => by rw [← htt, e]; rfl
    have HTE : Hid (x.text = wE → t = 0) := fun e => by rw [← htt, e]; rfl
    rw [htt] at ht
    clear htt
    by_cases hnot : x.text = wNot
    · have HU : Hid (signP T prop sg form i = (sg (i + 1)).also fun o a => .ok (o ++ [item 15 x]) a) := by
        unfold Hid signP; rw [if_neg H1.out, if_neg H2.out, HX.out, if_pos hnot]
      rw [decide_eq_true (by exact hnot)] at qnot
      clear hnot qA qE
      go_enter Tryz.func45, Tryz.ntmps45
      go_wp2_with fail
      refine HN.out.mono ?_
      rintro e w1 ⟨rfl, hb1⟩
      rw [HX.out]
      unfold tokV
      have HK1 := Lib.hid (HK0.out w1 hb1)
      have hs1 := hb1.size
      clear hb1
      go_wp2_with fail
      refine (temporal_any x.text _).mono ?_
      rintro e w2 ⟨rfl, hb2⟩
      rw [HT.out]
      have HK2 := Lib.hid (HK1.out.below hb2 hB)
      clear hb2
      obtain ⟨_, c1, c2, _, _, _, _⟩ := HK2.out.tk.rd.facts
      obtain ⟨f1, _, _, _, _⟩ := HK2.out.tk.rd.free
      have hblK := HK2.out.tk.rd.lt
      obtain ⟨t0, t1, t2, t3, t4⟩ := HK2.out.tb.facts
      have htlK := HK2.out.tb.lt
      have hkk := Lib.hid (show b ≠ w1.heap.size by omega)
      have HM := Lib.hid (HK2.out.moved hkk.out (i + 1))
      go_wp2_with fail
      cases hp : sg (i + 1) with
      | bad er l c =>
        have HE := Lib.hid hp
        clear hp
        refine (HSO.out _ B b lv T (i + 1) _ ov O line col (d + 1) HM.out.tk.rd (HM.out.tk.size hB) (by omega) (by omega) (by omega) HDN.out).mono ?_
        rw [HSM.out, HE.out]
        rintro e w4 ⟨rfl, ov4, O4, i4, htk⟩
        have HF := Lib.hid (HM.out.tk.trans htk)
        clear htk
        go_wp2
        go_ret
        exact CRes.bad (HU.out.trans (also_of_bad HE.out)) rfl HF.out
      | ok o1 a1 =>
        have hg1 := HGS.out _ _ _ hp
        have HE := Lib.hid hp
        clear hp
        refine (HSO.out _ B b lv T (i + 1) _ ov O line col (d + 1) HM.out.tk.rd (HM.out.tk.size hB) (by omega) (by omega) (by omega) HDN.out).mono ?_
        rw [HSM.out, HE.out]
        rintro e w4 ⟨rfl, ov4, l4, c4, htk⟩
        have hx4 := HM.out.tb.kept htk.kept (Ne.symm hkk.out)
        obtain ⟨z0, z1, z2, z3, z4⟩ := hx4.facts
        have hO4 : (O ++ o1).length ≤ 1000000 := by rw [List.length_append]; omega
        have HC4 := Lib.hid (HM.out.tk.trans htk)
        clear htk hx4
        go_wp2_with fail
        refine (put_any HC4.out.rd (HC4.out.size hB) hO4 _ _ _ _ _ _ _ _ _ _ _).mono ?_
        rintro e w5 ⟨rfl, ov5, hp⟩
        have HF := Lib.hid (show CTook w w5 B b lv T a1 _ ov5 (O ++ (o1 ++ [item (15) x])) 0 l4 c4 by
          have := HC4.out.trans hp
          rw [List.append_assoc] at this; exact this)
        clear hp
        go_wp2
        go_ret
        exact CRes.ok (HU.out.trans (also_of_ok HE.out)) rfl HF.out
    rw [decide_eq_false (by exact hnot)] at qnot
    have H3 := Lib.hid hnot
    clear hnot
    cases prop
    · have HPF : Hid (t > 0 ∨ x.text = wA ∨ x.text = wE → signP T false sg form i = .bad 4 x.line x.col) := fun hh => by
        unfold signP; rw [if_neg H1.out, if_neg H2.out, HX.out, if_neg H3.out, HT.out, if_pos ⟨rfl, hh⟩]; unfold badP; rw [HX.out]
      by_cases h0 : 0 < t
      · have H0 := Lib.hid h0
        clear qA qE
        go_enter Tryz.func45, Tryz.ntmps45
        go_wp2_with fail
        refine HN.out.mono ?_
        rintro e w1 ⟨rfl, hb1⟩
        rw [HX.out]
        unfold tokV
        have HK1 := Lib.hid (HK0.out w1 hb1)
        have hs1 := hb1.size
        clear hb1
        go_wp2_with fail
        refine (temporal_any x.text _).mono ?_
        rintro e w2 ⟨rfl, hb2⟩
        rw [HT.out]
        have HK2 := Lib.hid (HK1.out.below hb2 hB)
        clear hb2
        obtain ⟨_, c1, c2, _, _, _, _⟩ := HK2.out.tk.rd.facts
        obtain ⟨f1, _, _, _, _⟩ := HK2.out.tk.rd.free
        have hblK := HK2.out.tk.rd.lt
        obtain ⟨t0, t1, t2, t3, t4⟩ := HK2.out.tb.facts
        have htlK := HK2.out.tb.lt
        go_wp2_with fail
        refine (cfail_any HK2.out.tk.rd (HK2.out.tk.size hB) 4 rfl).mono ?_
        rintro e w3 ⟨rfl, hc⟩
        rw [HX.out] at hc
        have HF := Lib.hid (HK2.out.tk.trans hc)
        clear hc
        go_wp2
        go_ret
        exact CRes.bad (HPF.out (.inl H0.out)) rfl HF.out
      have h00 : t = 0 := by omega
      subst h00
      clear h0 ht
      by_cases hA : x.text = wA
      · have HA := Lib.hid hA
        rw [decide_eq_true (by exact hA)] at qA
        clear hA qE
        go_enter Tryz.func45, Tryz.ntmps45
        go_wp2_with fail
        refine HN.out.mono ?_
        rintro e w1 ⟨rfl, hb1⟩
        rw [HX.out]
        unfold tokV
        have HK1 := Lib.hid (HK0.out w1 hb1)
        have hs1 := hb1.size
        clear hb1
        go_wp2_with fail
        refine (temporal_any x.text _).mono ?_
        rintro e w2 ⟨rfl, hb2⟩
        rw [HT.out]
        have HK2 := Lib.hid (HK1.out.below hb2 hB)
        clear hb2
        obtain ⟨_, c1, c2, _, _, _, _⟩ := HK2.out.tk.rd.facts
        obtain ⟨f1, _, _, _, _⟩ := HK2.out.tk.rd.free
        have hblK := HK2.out.tk.rd.lt
        obtain ⟨t0, t1, t2, t3, t4⟩ := HK2.out.tb.facts
        have htlK := HK2.out.tb.lt
        go_wp2_with fail
        refine (cfail_any HK2.out.tk.rd (HK2.out.tk.size hB) 4 rfl).mono ?_
        rintro e w3 ⟨rfl, hc⟩
        rw [HX.out] at hc
        have HF := Lib.hid (HK2.out.tk.trans hc)
        clear hc
        go_wp2
        go_ret
        exact CRes.bad (HPF.out (.inr (.inl HA.out))) rfl HF.out
      rw [decide_eq_false (by exact hA)] at qA
      by_cases hE : x.text = wE
      · have HE' := Lib.hid hE
        rw [decide_eq_true (by exact hE)] at qE
        clear hA hE
        go_enter Tryz.func45, Tryz.ntmps45
        go_wp2_with fail
        refine HN.out.mono ?_
        rintro e w1 ⟨rfl, hb1⟩
        rw [HX.out]
        unfold tokV
        have HK1 := Lib.hid (HK0.out w1 hb1)
        have hs1 := hb1.size
        clear hb1
        go_wp2_with fail
        refine (temporal_any x.text _).mono ?_
        rintro e w2 ⟨rfl, hb2⟩
        rw [HT.out]
        have HK2 := Lib.hid (HK1.out.below hb2 hB)
        clear hb2
        obtain ⟨_, c1, c2, _, _, _, _⟩ := HK2.out.tk.rd.facts
        obtain ⟨f1, _, _, _, _⟩ := HK2.out.tk.rd.free
        have hblK := HK2.out.tk.rd.lt
        obtain ⟨t0, t1, t2, t3, t4⟩ := HK2.out.tb.facts
        have htlK := HK2.out.tb.lt
        go_wp2_with fail
        refine (cfail_any HK2.out.tk.rd (HK2.out.tk.size hB) 4 rfl).mono ?_
        rintro e w3 ⟨rfl, hc⟩
        rw [HX.out] at hc
        have HF := Lib.hid (HK2.out.tk.trans hc)
        clear hc
        go_wp2
        go_ret
        exact CRes.bad (HPF.out (.inr (.inr HE'.out))) rfl HF.out
      rw [decide_eq_false (by exact hE)] at qE
      have HU : Hid (signP T false sg form i = atomP T false i) := by
        unfold Hid signP; rw [if_neg H1.out, if_neg H2.out, HX.out, if_neg H3.out, HT.out, if_neg (by rintro ⟨_, h | h | h⟩; omega; exact hA h; exact hE h), if_neg hA, if_neg hE, if_pos rfl]
      clear hA hE
      go_enter Tryz.func45, Tryz.ntmps45
      go_wp2_with fail
      refine HN.out.mono ?_
      rintro e w1 ⟨rfl, hb1⟩
      rw [HX.out]
      unfold tokV
      have HK1 := Lib.hid (HK0.out w1 hb1)
      have hs1 := hb1.size
      clear hb1
      go_wp2_with fail
      refine (temporal_any x.text _).mono ?_
      rintro e w2 ⟨rfl, hb2⟩
      rw [HT.out]
      have HK2 := Lib.hid (HK1.out.below hb2 hB)
      clear hb2
      obtain ⟨_, c1, c2, _, _, _, _⟩ := HK2.out.tk.rd.facts
      obtain ⟨f1, _, _, _, _⟩ := HK2.out.tk.rd.free
      have hblK := HK2.out.tk.rd.lt
      obtain ⟨t0, t1, t2, t3, t4⟩ := HK2.out.tb.facts
      have htlK := HK2.out.tb.lt
      go_wp2_with fail
      have HAT := Lib.hid (atom_any HK2.out.tk.rd (HK2.out.tk.size hB) hlo (by omega) (by omega))
      unfold Hid tokV at HAT
      rw [HX.out] at HAT
      refine HAT.mono ?_
      clear HAT
      rintro e w3 hres
      have HS := Lib.hid (hres)
      obtain ⟨q, rfl⟩ := hres.val
      clear hres
      go_wp2
      go_ret
      rw [HU.out]
      exact CRes.cat HS.out HK2.out.tk
    · have hp0 : ¬ (true = false ∧ (t > 0 ∨ x.text = wA ∨ x.text = wE)) := by rintro ⟨h, _⟩; cases h
      have HP0 := Lib.hid hp0
      clear hp0
      by_cases hA : x.text = wA
      · have h0 := HTA.out hA
        subst h0
        have HU : Hid (signP T true sg form i = untilP T form 25 i) := by unfold Hid signP; rw [if_neg H1.out, if_neg H2.out, HX.out, if_neg H3.out, HT.out, if_neg HP0.out, if_pos hA]
        rw [decide_eq_true (by exact hA)] at qA
        clear hA qE ht
        go_enter Tryz.func45, Tryz.ntmps45
        go_wp2_with fail
        refine HN.out.mono ?_
        rintro e w1 ⟨rfl, hb1⟩
        rw [HX.out]
        unfold tokV
        have HK1 := Lib.hid (HK0.out w1 hb1)
        have hs1 := hb1.size
        clear hb1
        go_wp2_with fail
        refine (temporal_any x.text _).mono ?_
        rintro e w2 ⟨rfl, hb2⟩
        rw [HT.out]
        have HK2 := Lib.hid (HK1.out.below hb2 hB)
        clear hb2
        obtain ⟨_, c1, c2, _, _, _, _⟩ := HK2.out.tk.rd.facts
        obtain ⟨f1, _, _, _, _⟩ := HK2.out.tk.rd.free
        have hblK := HK2.out.tk.rd.lt
        obtain ⟨t0, t1, t2, t3, t4⟩ := HK2.out.tb.facts
        have htlK := HK2.out.tb.lt
        go_wp2_with fail
        refine ((HUN 25).out _ line col ov HK2.out.tk.rd (HK2.out.tk.size hB) (by omega) (by omega) (by omega)).mono ?_
        rintro e w3 hres
        have HS := Lib.hid (hres)
        obtain ⟨q, rfl⟩ := hres.val
        clear hres
        go_wp2
        go_ret
        rw [HU.out]
        exact CRes.cat HS.out HK2.out.tk
      rw [decide_eq_false (by exact hA)] at qA
      by_cases hE : x.text = wE
      · have h0 := HTE.out hE
        subst h0
        have HU : Hid (signP T true sg form i = untilP T form 26 i) := by unfold Hid signP; rw [if_neg H1.out, if_neg H2.out, HX.out, if_neg H3.out, HT.out, if_neg HP0.out, if_neg hA, if_pos hE]
        rw [decide_eq_true (by exact hE)] at qE
        clear hA hE ht
        go_enter Tryz.func45, Tryz.ntmps45
        go_wp2_with fail
        refine HN.out.mono ?_
        rintro e w1 ⟨rfl, hb1⟩
        rw [HX.out]
        unfold tokV
        have HK1 := Lib.hid (HK0.out w1 hb1)
        have hs1 := hb1.size
        clear hb1
        go_wp2_with fail
        refine (temporal_any x.text _).mono ?_
        rintro e w2 ⟨rfl, hb2⟩
        rw [HT.out]
        have HK2 := Lib.hid (HK1.out.below hb2 hB)
        clear hb2
        obtain ⟨_, c1, c2, _, _, _, _⟩ := HK2.out.tk.rd.facts
        obtain ⟨f1, _, _, _, _⟩ := HK2.out.tk.rd.free
        have hblK := HK2.out.tk.rd.lt
        obtain ⟨t0, t1, t2, t3, t4⟩ := HK2.out.tb.facts
        have htlK := HK2.out.tb.lt
        go_wp2_with fail
        refine ((HUN 26).out _ line col ov HK2.out.tk.rd (HK2.out.tk.size hB) (by omega) (by omega) (by omega)).mono ?_
        rintro e w3 hres
        have HS := Lib.hid (hres)
        obtain ⟨q, rfl⟩ := hres.val
        clear hres
        go_wp2
        go_ret
        rw [HU.out]
        exact CRes.cat HS.out HK2.out.tk
      rw [decide_eq_false (by exact hE)] at qE
      by_cases h0 : t = 0
      · subst h0
        have HU : Hid (signP T true sg form i = atomP T true i) := by
          unfold Hid signP; rw [if_neg H1.out, if_neg H2.out, HX.out, if_neg H3.out, HT.out, if_neg HP0.out, if_neg hA, if_neg hE, if_pos rfl]
        clear hA hE ht
        go_enter Tryz.func45, Tryz.ntmps45
        go_wp2_with fail
        refine HN.out.mono ?_
        rintro e w1 ⟨rfl, hb1⟩
        rw [HX.out]
        unfold tokV
        have HK1 := Lib.hid (HK0.out w1 hb1)
        have hs1 := hb1.size
        clear hb1
        go_wp2_with fail
        refine (temporal_any x.text _).mono ?_
        rintro e w2 ⟨rfl, hb2⟩
        rw [HT.out]
        have HK2 := Lib.hid (HK1.out.below hb2 hB)
        clear hb2
        obtain ⟨_, c1, c2, _, _, _, _⟩ := HK2.out.tk.rd.facts
        obtain ⟨f1, _, _, _, _⟩ := HK2.out.tk.rd.free
        have hblK := HK2.out.tk.rd.lt
        obtain ⟨t0, t1, t2, t3, t4⟩ := HK2.out.tb.facts
        have htlK := HK2.out.tb.lt
        go_wp2_with fail
        have HAT := Lib.hid (atom_any HK2.out.tk.rd (HK2.out.tk.size hB) hlo (by omega) (by omega))
        unfold Hid tokV at HAT
        rw [HX.out] at HAT
        refine HAT.mono ?_
        clear HAT
        rintro e w3 hres
        have HS := Lib.hid (hres)
        obtain ⟨q, rfl⟩ := hres.val
        clear hres
        go_wp2
        go_ret
        rw [HU.out]
        exact CRes.cat HS.out HK2.out.tk
      · have HU : Hid (signP T true sg form i = (sg (i + 1)).also fun o a => .ok (o ++ [item t x]) a) := by
          unfold Hid signP; rw [if_neg H1.out, if_neg H2.out, HX.out, if_neg H3.out, HT.out, if_neg HP0.out, if_neg hA, if_neg hE, if_neg h0]
        have ht1 : 0 < t := by omega
        have htb : (t == 0) = false := beq_eq_false_iff_ne.2 h0
        clear hA hE h0
        go_enter Tryz.func45, Tryz.ntmps45
        go_wp2_with fail
        refine HN.out.mono ?_
        rintro e w1 ⟨rfl, hb1⟩
        rw [HX.out]
        unfold tokV
        have HK1 := Lib.hid (HK0.out w1 hb1)
        have hs1 := hb1.size
        clear hb1
        go_wp2_with fail
        refine (temporal_any x.text _).mono ?_
        rintro e w2 ⟨rfl, hb2⟩
        rw [HT.out]
        have HK2 := Lib.hid (HK1.out.below hb2 hB)
        clear hb2
        obtain ⟨_, c1, c2, _, _, _, _⟩ := HK2.out.tk.rd.facts
        obtain ⟨f1, _, _, _, _⟩ := HK2.out.tk.rd.free
        have hblK := HK2.out.tk.rd.lt
        obtain ⟨t0, t1, t2, t3, t4⟩ := HK2.out.tb.facts
        have htlK := HK2.out.tb.lt
        have hkk := Lib.hid (show b ≠ w1.heap.size by omega)
        have HM := Lib.hid (HK2.out.moved hkk.out (i + 1))
        go_wp2_with fail
        cases hp : sg (i + 1) with
        | bad er l c =>
          have HE := Lib.hid hp
          clear hp
          refine (HSO.out _ B b lv T (i + 1) _ ov O line col (d + 1) HM.out.tk.rd (HM.out.tk.size hB) (by omega) (by omega) (by omega) HDN.out).mono ?_
          rw [HSM.out, HE.out]
          rintro e w4 ⟨rfl, ov4, O4, i4, htk⟩
          have HF := Lib.hid (HM.out.tk.trans htk)
          clear htk
          go_wp2
          go_ret
          exact CRes.bad (HU.out.trans (also_of_bad HE.out)) rfl HF.out
        | ok o1 a1 =>
          have hg1 := HGS.out _ _ _ hp
          have HE := Lib.hid hp
          clear hp
          refine (HSO.out _ B b lv T (i + 1) _ ov O line col (d + 1) HM.out.tk.rd (HM.out.tk.size hB) (by omega) (by omega) (by omega) HDN.out).mono ?_
          rw [HSM.out, HE.out]
          rintro e w4 ⟨rfl, ov4, l4, c4, htk⟩
          have hx4 := HM.out.tb.kept htk.kept (Ne.symm hkk.out)
          obtain ⟨z0, z1, z2, z3, z4⟩ := hx4.facts
          have hO4 : (O ++ o1).length ≤ 1000000 := by rw [List.length_append]; omega
          have HC4 := Lib.hid (HM.out.tk.trans htk)
          clear htk hx4
          go_wp2_with fail
          refine (put_any HC4.out.rd (HC4.out.size hB) hO4 _ _ _ _ _ _ _ _ _ _ _).mono ?_
          rintro e w5 ⟨rfl, ov5, hp⟩
          have HF := Lib.hid (show CTook w w5 B b lv T a1 _ ov5 (O ++ (o1 ++ [item (t) x])) 0 l4 c4 by
            have := HC4.out.trans hp
            rw [List.append_assoc] at this; exact this)
          clear hp
          go_wp2
          go_ret
          exact CRes.ok (HU.out.trans (also_of_ok HE.out)) rfl HF.out
  · have hk2b : (x.kind == 2) = false := beq_eq_false_iff_ne.2 hk2
    have hk2n : (x.kind != 2) = true := by simpa using hk2
    have HU : Hid (signP T prop sg form i = compP T i) := by unfold Hid signP; rw [if_neg h40, if_pos (by rw [HX.out]; exact hk2)]
    clear h40 hk2 qnot qA qE ht q40
    rcases h40' with hk4 | ⟨hk4, q40⟩
    all_goals
      go_enter Tryz.func45, Tryz.ntmps45
      go_wp2_with fail
      refine HN.out.mono ?_
      rintro e w1 ⟨rfl, hb1⟩
      rw [HX.out]
      unfold tokV
      have HK1 := Lib.hid (HK0.out w1 hb1)
      have hs1 := hb1.size
      clear hb1
      go_wp2_with fail
      refine (compare_any HK1.out.tk.rd (HK1.out.tk.size hB) hlo (by omega) (by have := hO; omega)).mono ?_
      rintro e w3 hres
      have HS := Lib.hid (hres)
      obtain ⟨q, rfl⟩ := hres.val
      clear hres
      go_wp2
      go_ret
      rw [HU.out]
      exact CRes.cat HS.out HK1.out.tk

end Go.Proofs.YthhjepgcbfmfeaaGreatDoor
