/- trace.Text, warderref37.Text. -/
import Derived.Test.YtgmijfmbbaipfaaDoorTr3
namespace Go.Proofs.YtgmijfmbbaipfaaDoor
open Go.RowKit

/-- where a move lies -/
structure MvAt (W : World) (b o : Nat) (v : Mv) (v2 : Value) : Prop where
  lt : b < W.heap.size
  c0 : W.cell? ⟨b, o, none⟩ = some (.int .i64 v.event)
  c1 : W.cell? ⟨b, o + 1, none⟩ = some (.int .i64 v.user)
  c2 : W.cell? ⟨b, o + 2, none⟩ = some v2
  vals : RowE intE 1 W v2 v.vals
theorem MvAt.below {W W' : World} {b o : Nat} {v : Mv} {v2 : Value} (h : MvAt W b o v v2) (hb : Below W.heap.size W W') : MvAt W' b o v v2 := by
  have k : ∀ j u, W.cell? ⟨b, j, none⟩ = some u → W'.cell? ⟨b, j, none⟩ = some u := fun j u hu => (hb.cell (p := ⟨b, j, none⟩) h.lt).trans hu
  exact ⟨Nat.lt_of_lt_of_le h.lt hb.size, k _ _ h.c0, k _ _ h.c1, k _ _ h.c2, h.vals.below intE_keep hb⟩
theorem moves_at {w : World} {lv : Value} {T : List Mv} (h : RowE moveE 3 w lv T) {k : Nat} {v : Mv} (hk : T[k]? = some v) :
    ∃ b off cap v2, lv = .slice (some ⟨b, off, none⟩) T.length cap ∧ MvAt w b (off + k * 3) v v2 := by
  obtain ⟨b, off, cap, cs, hv, hb, _, ⟨v2, hc, hr⟩, hcell⟩ := h.at hk
  subst hc
  exact ⟨b, off, cap, v2, hv, hb, hcell 0 _ rfl, hcell 1 _ rfl, hcell 2 _ rfl, hr⟩
theorem textE_bad {M : Mdl} {t : Tr} (h0 : ¬ 1024 < t.moves.length) (h1 : ¬ (t.loop < -1 ∨ (t.moves.length : Int) ≤ t.loop)) {k : Nat} (hk : k < t.moves.length) (h : lineOK M (t.moves.getD k ⟨0, 0, []⟩) = false) : textE M t = 17 ∧ textT M t = noneW := by
  have e : textE M t = 17 := by unfold textE; rw [if_neg h0, if_neg h1, if_neg (by rw [linesOK_back hk h]; decide)]
  exact ⟨e, by unfold textT; rw [if_neg (by rw [e]; decide)]⟩
theorem textE_good {M : Mdl} {t : Tr} (h0 : ¬ 1024 < t.moves.length) (h1 : ¬ (t.loop < -1 ∨ (t.moves.length : Int) ≤ t.loop)) (h : linesOK M t t.moves.length = true) : textE M t = 0 ∧ textT M t = accL M t t.moves.length := by
  have e : textE M t = 0 := by unfold textE; rw [if_neg h0, if_neg h1, if_pos h]
  exact ⟨e, by unfold textT; rw [if_pos e]⟩
theorem textE_long {M : Mdl} {t : Tr} (h0 : 1024 < t.moves.length) : textE M t = 3 ∧ textT M t = noneW := by
  have e : textE M t = 3 := by unfold textE; rw [if_pos h0]
  exact ⟨e, by unfold textT; rw [if_neg (by rw [e]; decide)]⟩
theorem textE_loop {M : Mdl} {t : Tr} (h0 : ¬ 1024 < t.moves.length) (h1 : t.loop < -1 ∨ (t.moves.length : Int) ≤ t.loop) : textE M t = 18 ∧ textT M t = noneW := by
  have e : textE M t = 18 := by unfold textE; rw [if_neg h0, if_pos h1]
  exact ⟨e, by unfold textT; rw [if_neg (by rw [e]; decide)]⟩
theorem catL {s : ByteArray} {k n : Nat} (h : s.size ≤ 2006 * k) (hk : k ≤ n) (hn : n ≤ 1024) : ¬ 9223372036854775807 < s.size + 6 := by omega
theorem catM {s l : ByteArray} {k n : Nat} (h : s.size ≤ 2006 * k) (hk : k ≤ n) (hn : n ≤ 1024) (hl : l.size ≤ 2000) : ¬ 9223372036854775807 < s.size + l.size := by omega
theorem catN {s l : ByteArray} {k n : Nat} (h : s.size ≤ 2006 * k) (hk : k ≤ n) (hn : n ≤ 1024) (hl : l.size ≤ 2000) : ¬ 9223372036854775807 < s.size + 6 + l.size := by omega

set_option maxRecDepth 100000 in
set_option maxHeartbeats 1200000 in
theorem ttext_any {w : World} {m0 m1 m2 m3 m4 m5 m6 m7 m8 m9 lv : Value} {M : Mdl} (t : Tr) (ht : Tabs w) (hm : MdR w m0 m1 m2 m3 m4 m5 m6 m7 m8 m9 M) (hv : RowE moveE 3 w lv t.moves) (hs : SmallM M) (hsv : ∀ v ∈ t.moves, SmallV v) :
    Calls Tryd.prog 6 #[.agg #[m0, m1, m2, m3, m4, m5, m6, m7, m8, m9], .agg #[lv, .int .i64 t.loop]] w fun e w' => e = .returned (.tuple #[.string (textT M t), .int .i64 (textE M t)]) ∧ Below w.heap.size w w' := by
  obtain ⟨ad, cp, ev⟩ := hv.len
  obtain ⟨n, hn⟩ : ∃ n, t.moves.length = n := ⟨_, rfl⟩
  have hmx := hv.max
  rw [hn] at ev hmx
  subst ev
  obtain ⟨lp, hlp⟩ : ∃ x, t.loop = x := ⟨_, rfl⟩
  obtain ⟨W1, hW1⟩ : ∃ W1, w.alloc (.cells #[m0, m1, m2, m3, m4, m5, m6, m7, m8, m9] 32) = W1 := ⟨_, rfl⟩
  have hs1 : W1.heap.size = w.heap.size + 1 := by rw [← hW1]; simp
  obtain ⟨W2, hW2⟩ : ∃ W2, W1.alloc (.cells #[.slice ad n cp, .int .i64 lp] 41) = W2 := ⟨_, rfl⟩
  have hb2 : Below w.heap.size w W2 := by rw [← hW2, ← hW1]; exact ((Below.refl _ w).alloc (Nat.le_refl _) _).alloc (by simp) _
  have xm : Blk W2 w.heap.size #[m0, m1, m2, m3, m4, m5, m6, m7, m8, m9] 32 := by rw [← hW2, ← hW1]; exact (Blk.new _ _ _).alloc _
  have xt : Blk W2 (w.heap.size + 1) #[.slice ad n cp, .int .i64 lp] 41 := by rw [← hW2, ← hs1]; exact Blk.new _ _ _
  have d0 := xt.cell (i := 0) rfl; have d1 := xt.cell (i := 1) rfl
  have HT := Lib.hid ht; have HM := Lib.hid hm; have HV := Lib.hid hv; have HS := Lib.hid hs; have HSV := Lib.hid hsv; have HN := Lib.hid hn; have HLP := Lib.hid hlp
  have HB2 := Lib.hid hb2; have HXM := Lib.hid xm; have HXT := Lib.hid xt
  rw [hlp]
  by_cases h0 : 1024 < n
  · have HF := Lib.hid (textE_long (M := M) (t := t) (by rw [hn]; exact h0))
    rw [HF.out.1, HF.out.2]
    have h0i : (1024 : Int) < (n : Int) := by omega
    clear ht hm hv hs hsv hn hlp hb2 xm xt
    go_enter Tryd.func6, Tryd.ntmps6
    go_wp2_with fail
    go_ret2
    exact ⟨rfl, HB2.out⟩
  have h0i : ¬ (1024 : Int) < (n : Int) := by omega
  by_cases h1 : lp < -1
  · have HF := Lib.hid (textE_loop (M := M) (t := t) (by rw [hn]; exact h0) (by rw [hlp]; exact .inl h1))
    rw [HF.out.1, HF.out.2]
    clear ht hm hv hs hsv hn hlp hb2 xm xt
    go_enter Tryd.func6, Tryd.ntmps6
    go_wp2_with fail
    go_ret2
    exact ⟨rfl, HB2.out⟩
  by_cases h2 : (n : Int) ≤ lp
  · have HF := Lib.hid (textE_loop (M := M) (t := t) (by rw [hn]; exact h0) (by rw [hlp, hn]; exact .inr h2))
    rw [HF.out.1, HF.out.2]
    clear ht hm hv hs hsv hn hlp hb2 xm xt
    go_enter Tryd.func6, Tryd.ntmps6
    go_wp2_with fail
    go_ret2
    exact ⟨rfl, HB2.out⟩
  have HNL : Hid (¬ (t.loop < -1 ∨ (t.moves.length : Int) ≤ t.loop)) := by unfold Hid; rw [hlp, hn]; omega
  have HN0 : Hid (¬ 1024 < t.moves.length) := by unfold Hid; rw [hn]; exact h0
  have hn1024 : n ≤ 1024 := by omega
  clear ht hm hv hs hsv hn hlp hb2 xm xt h0
  go_enter Tryd.func6, Tryd.ntmps6
  go_wp2_with fail
  go_loopw [6, 31] (fun s6 i wr => ∃ k : Nat, k ≤ n ∧ i = .int .i64 k ∧ s6 = .string (accL M t k) ∧ Hid (linesOK M t k = true) ∧ Hid (Below W2.heap.size W2 wr)) (fun _ i _ => n - (intOf i).toNat)
  case atStart => exact ⟨0, Nat.zero_le _, rfl, rfl, rfl, Below.refl _ _⟩
  case round =>
    clear d0 d1
    obtain ⟨k, hk, rfl, rfl, HL, HB⟩ := hrel
    have HBW := Lib.hid (HB2.out.trans (HB.out.mono HB2.out.size))
    have d0 := (HXT.out.keep HB.out).cell (i := 0) rfl
    have d1 := (HXT.out.keep HB.out).cell (i := 1) rfl
    have hsz := accL_size HS.out HSV.out k (by rw [HN.out]; exact hk) HL.out
    have HAC : Hid (accL M t (k + 1) = (if (k : Int) = t.loop then accL M t k ++ loopW else accL M t k) ++ lineT M (t.moves.getD k ⟨0, 0, []⟩)) := rfl
    obtain ⟨S, hS⟩ : ∃ s, accL M t k = s := ⟨_, rfl⟩
    have HSS := Lib.hid hS
    rw [hS] at hsz HAC ⊢
    clear hS
    by_cases hlt : k < n
    · have hkn : (k : Int) < (n : Int) := by omega
      have hk0 : (0 : Int) ≤ (k : Int) := by omega
      obtain ⟨v, hvk⟩ : ∃ v, t.moves[k]? = some v := ⟨_, List.getElem?_eq_getElem (by rw [HN.out]; exact hlt)⟩
      have hgd : t.moves.getD k ⟨0, 0, []⟩ = v := list_getD _ hvk
      have hsv := HSV.out v (List.mem_of_getElem? hvk)
      obtain ⟨bv, ov, cv, v2, eq, hmv⟩ := moves_at ((HV.out.below moveE_keep HBW.out)) hvk
      rw [HN.out] at eq
      cases eq
      obtain ⟨av, kv, ev⟩ := hmv.vals.len
      subst ev
      rw [hgd, HLP.out] at HAC
      have HVS := Lib.hid hsv
      have HVK : Hid (∀ b, lineOK M v = b → lineOK M (t.moves.getD k ⟨0, 0, []⟩) = b) := by unfold Hid; intro b h; rw [hgd]; exact h
      have g0 := hmv.c0; have g1 := hmv.c1; have g2 := hmv.c2
      have HMV := Lib.hid hmv
      have hbl := hmv.lt
      obtain ⟨W4, hW4⟩ : ∃ W, wr.alloc (.cells #[.int .i64 v.event, .int .i64 v.user, .slice av v.vals.length kv] 46) = W := ⟨_, rfl⟩
      have hb4 : Below wr.heap.size wr W4 := by rw [← hW4]; exact (Below.refl _ _).alloc (Nat.le_refl _) _
      have HB4 := Lib.hid (HB.out.trans (hb4.mono HB.out.size))
      have HBW4 := Lib.hid (HBW.out.trans (hb4.mono HBW.out.size))
      have HX4 := Lib.hid (show Blk W4 wr.heap.size #[.int .i64 v.event, .int .i64 v.user, .slice av v.vals.length kv] 46 by rw [← hW4]; exact Blk.new _ _ _)
      have HMV4 := Lib.hid (HMV.out.below hb4)
      have p0 := HX4.out.cell (i := 0) rfl; have p1 := HX4.out.cell (i := 1) rfl; have p2 := HX4.out.cell (i := 2) rfl
      have xm4 := HXM.out.keep HB4.out
      have c0 := xm4.cell (i := 0) rfl
      have c1 := xm4.cell (i := 1) rfl
      have c2 := xm4.cell (i := 2) rfl
      have c3 := xm4.cell (i := 3) rfl
      have c4 := xm4.cell (i := 4) rfl
      have c5 := xm4.cell (i := 5) rfl
      have c6 := xm4.cell (i := 6) rfl
      have c7 := xm4.cell (i := 7) rfl
      have c8 := xm4.cell (i := 8) rfl
      have c9 := xm4.cell (i := 9) rfl
      have q1 := (HXT.out.keep HB4.out).cell (i := 1) rfl
      clear hvk hgd hsv hmv xm4
      go_upto_region 9 with fail
      have HLN := Lib.hid (tline_any v (HT.out.keep HBW4.out) (HM.out.below HBW4.out) HMV4.out.vals HS.out HVS.out)
      have hz1 := catL hsz hk hn1024
      by_cases hkl : (k : Int) = lp
      · have HAC2 : Hid (accL M t (k + 1) = S ++ loopW ++ lineT M v) := by unfold Hid; rw [HAC.out, if_pos hkl]
        clear HAC
        go_wp2_with fail
        refine HLN.out.mono ?_
        rintro e w5 ⟨s, rfl, HLS, hb5⟩
        have HBW5 := Lib.hid (HBW4.out.trans (hb5.mono HBW4.out.size))
        have HB5 := Lib.hid (HB4.out.trans (hb5.mono HB4.out.size))
        obtain ⟨ok, hok⟩ : ∃ b, lineOK M v = b := ⟨_, rfl⟩
        have HOK := Lib.hid hok
        rw [hok]
        clear hok hb5
        cases ok
        · have HF := Lib.hid (textE_bad (M := M) (t := t) HN0.out HNL.out (k := k) (by rw [HN.out]; exact hlt) (HVK.out _ HOK.out))
          go_wp2_with fail
          go_ret2
          exact ⟨by rw [HF.out.1, HF.out.2]; rfl, HBW5.out⟩
        · have HSL := Lib.hid (HLS.out HOK.out)
          have hls := line_size HS.out HVS.out HOK.out
          rw [← HSL.out] at hls
          have hz2 := catN hsz hk hn1024 hls
          have HLS2 : Hid (linesOK M t (k + 1) = true) := by unfold Hid; rw [linesOK_succ, HL.out, HVK.out _ HOK.out]; rfl
          have HAC3 : Hid (accL M t (k + 1) = S ++ loopW ++ s) := by unfold Hid; rw [HAC2.out, HSL.out]
          clear HLS HAC2
          go_wp2_with fail
          go_roundw
          case rel => exact ⟨k + 1, by omega, by go_num, by rw [HAC3.out]; rfl, HLS2, HB5⟩
          case measure => simp [intOf]; omega
      · have HAC2 : Hid (accL M t (k + 1) = S ++ lineT M v) := by unfold Hid; rw [HAC.out, if_neg hkl]
        clear HAC
        go_wp2_with fail
        refine HLN.out.mono ?_
        rintro e w5 ⟨s, rfl, HLS, hb5⟩
        have HBW5 := Lib.hid (HBW4.out.trans (hb5.mono HBW4.out.size))
        have HB5 := Lib.hid (HB4.out.trans (hb5.mono HB4.out.size))
        obtain ⟨ok, hok⟩ : ∃ b, lineOK M v = b := ⟨_, rfl⟩
        have HOK := Lib.hid hok
        rw [hok]
        clear hok hb5
        cases ok
        · have HF := Lib.hid (textE_bad (M := M) (t := t) HN0.out HNL.out (k := k) (by rw [HN.out]; exact hlt) (HVK.out _ HOK.out))
          go_wp2_with fail
          go_ret2
          exact ⟨by rw [HF.out.1, HF.out.2]; rfl, HBW5.out⟩
        · have HSL := Lib.hid (HLS.out HOK.out)
          have hls := line_size HS.out HVS.out HOK.out
          rw [← HSL.out] at hls
          have hz2 := catM hsz hk hn1024 hls
          have HLS2 : Hid (linesOK M t (k + 1) = true) := by unfold Hid; rw [linesOK_succ, HL.out, HVK.out _ HOK.out]; rfl
          have HAC3 : Hid (accL M t (k + 1) = S ++ s) := by unfold Hid; rw [HAC2.out, HSL.out]
          clear HLS HAC2
          go_wp2_with fail
          go_roundw
          case rel => exact ⟨k + 1, by omega, by go_num, by rw [HAC3.out], HLS2, HB5⟩
          case measure => simp [intOf]; omega
    · obtain rfl : k = n := by omega
      have HF := Lib.hid (textE_good (M := M) (t := t) HN0.out HNL.out (by rw [HN.out]; exact HL.out))
      have HFT : Hid (textT M t = S) := by unfold Hid; rw [HF.out.2, HN.out, HSS.out]
      go_wp2_with fail
      go_ret2
      exact ⟨by rw [HF.out.1, HFT.out]; rfl, HBW.out⟩

set_option maxRecDepth 100000 in
set_option maxHeartbeats 1200000 in
theorem rttext_any {w : World} {m0 m1 m2 m3 m4 m5 m6 m7 m8 m9 lv : Value} {M : Mdl} (t : Tr) (ht : Tabs w) (hm : MdR w m0 m1 m2 m3 m4 m5 m6 m7 m8 m9 M) (hv : RowE moveE 3 w lv t.moves) (hs : SmallM M) (hsv : ∀ v ∈ t.moves, SmallV v) :
    Calls Tryd.prog 8 #[.agg #[m0, m1, m2, m3, m4, m5, m6, m7, m8, m9], .agg #[lv, .int .i64 t.loop]] w fun e w' => e = .returned (.tuple #[.string (textT M t), .int .i64 (textE M t)]) ∧ Below w.heap.size w w' := by
  obtain ⟨ad, cp, ev⟩ := hv.len
  obtain ⟨n, hn⟩ : ∃ n, t.moves.length = n := ⟨_, rfl⟩
  have hmx := hv.max
  rw [hn] at ev hmx
  subst ev
  obtain ⟨lp, hlp⟩ : ∃ x, t.loop = x := ⟨_, rfl⟩
  obtain ⟨W1, hW1⟩ : ∃ W1, w.alloc (.cells #[m0, m1, m2, m3, m4, m5, m6, m7, m8, m9] 32) = W1 := ⟨_, rfl⟩
  have hs1 : W1.heap.size = w.heap.size + 1 := by rw [← hW1]; simp
  obtain ⟨W2, hW2⟩ : ∃ W2, W1.alloc (.cells #[.slice ad n cp, .int .i64 lp] 35) = W2 := ⟨_, rfl⟩
  have hb2 : Below w.heap.size w W2 := by rw [← hW2, ← hW1]; exact ((Below.refl _ w).alloc (Nat.le_refl _) _).alloc (by simp) _
  have xm : Blk W2 w.heap.size #[m0, m1, m2, m3, m4, m5, m6, m7, m8, m9] 32 := by rw [← hW2, ← hW1]; exact (Blk.new _ _ _).alloc _
  have xt : Blk W2 (w.heap.size + 1) #[.slice ad n cp, .int .i64 lp] 35 := by rw [← hW2, ← hs1]; exact Blk.new _ _ _
  have d0 := xt.cell (i := 0) rfl; have d1 := xt.cell (i := 1) rfl
  have HT := Lib.hid ht; have HM := Lib.hid hm; have HV := Lib.hid hv; have HS := Lib.hid hs; have HSV := Lib.hid hsv; have HN := Lib.hid hn; have HLP := Lib.hid hlp
  have HB2 := Lib.hid hb2; have HXM := Lib.hid xm; have HXT := Lib.hid xt
  rw [hlp]
  by_cases h0 : 1024 < n
  · have HF := Lib.hid (textE_long (M := M) (t := t) (by rw [hn]; exact h0))
    rw [HF.out.1, HF.out.2]
    have h0i : (1024 : Int) < (n : Int) := by omega
    clear ht hm hv hs hsv hn hlp hb2 xm xt
    go_enter Tryd.func8, Tryd.ntmps8
    go_wp2_with fail
    go_ret2
    exact ⟨rfl, HB2.out⟩
  have h0i : ¬ (1024 : Int) < (n : Int) := by omega
  by_cases h1 : lp < -1
  · have HF := Lib.hid (textE_loop (M := M) (t := t) (by rw [hn]; exact h0) (by rw [hlp]; exact .inl h1))
    rw [HF.out.1, HF.out.2]
    clear ht hm hv hs hsv hn hlp hb2 xm xt
    go_enter Tryd.func8, Tryd.ntmps8
    go_wp2_with fail
    go_ret2
    exact ⟨rfl, HB2.out⟩
  by_cases h2 : (n : Int) ≤ lp
  · have HF := Lib.hid (textE_loop (M := M) (t := t) (by rw [hn]; exact h0) (by rw [hlp, hn]; exact .inr h2))
    rw [HF.out.1, HF.out.2]
    clear ht hm hv hs hsv hn hlp hb2 xm xt
    go_enter Tryd.func8, Tryd.ntmps8
    go_wp2_with fail
    go_ret2
    exact ⟨rfl, HB2.out⟩
  have HNL : Hid (¬ (t.loop < -1 ∨ (t.moves.length : Int) ≤ t.loop)) := by unfold Hid; rw [hlp, hn]; omega
  have HN0 : Hid (¬ 1024 < t.moves.length) := by unfold Hid; rw [hn]; exact h0
  have hn1024 : n ≤ 1024 := by omega
  clear ht hm hv hs hsv hn hlp hb2 xm xt h0
  go_enter Tryd.func8, Tryd.ntmps8
  go_wp2_with fail
  go_loopw [6, 7] (fun s6 i wr => ∃ k : Nat, k ≤ n ∧ i = .int .i64 k ∧ s6 = .string (accL M t k) ∧ Hid (linesOK M t k = true) ∧ Hid (Below W2.heap.size W2 wr)) (fun _ i _ => n - (intOf i).toNat)
  case atStart => exact ⟨0, Nat.zero_le _, rfl, rfl, rfl, Below.refl _ _⟩
  case round =>
    clear d0 d1
    obtain ⟨k, hk, rfl, rfl, HL, HB⟩ := hrel
    have HBW := Lib.hid (HB2.out.trans (HB.out.mono HB2.out.size))
    have d0 := (HXT.out.keep HB.out).cell (i := 0) rfl
    have d1 := (HXT.out.keep HB.out).cell (i := 1) rfl
    have hsz := accL_size HS.out HSV.out k (by rw [HN.out]; exact hk) HL.out
    have HAC : Hid (accL M t (k + 1) = (if (k : Int) = t.loop then accL M t k ++ loopW else accL M t k) ++ lineT M (t.moves.getD k ⟨0, 0, []⟩)) := rfl
    obtain ⟨S, hS⟩ : ∃ s, accL M t k = s := ⟨_, rfl⟩
    have HSS := Lib.hid hS
    rw [hS] at hsz HAC ⊢
    clear hS
    by_cases hlt : k < n
    · have hkn : (k : Int) < (n : Int) := by omega
      have hk0 : (0 : Int) ≤ (k : Int) := by omega
      obtain ⟨v, hvk⟩ : ∃ v, t.moves[k]? = some v := ⟨_, List.getElem?_eq_getElem (by rw [HN.out]; exact hlt)⟩
      have hgd : t.moves.getD k ⟨0, 0, []⟩ = v := list_getD _ hvk
      have hsv := HSV.out v (List.mem_of_getElem? hvk)
      obtain ⟨bv, ov, cv, v2, eq, hmv⟩ := moves_at ((HV.out.below moveE_keep HBW.out)) hvk
      rw [HN.out] at eq
      cases eq
      obtain ⟨av, kv, ev⟩ := hmv.vals.len
      subst ev
      rw [hgd, HLP.out] at HAC
      have HVS := Lib.hid hsv
      have HVK : Hid (∀ b, lineOK M v = b → lineOK M (t.moves.getD k ⟨0, 0, []⟩) = b) := by unfold Hid; intro b h; rw [hgd]; exact h
      have g0 := hmv.c0; have g1 := hmv.c1; have g2 := hmv.c2
      have HMV := Lib.hid hmv
      have HSF : Hid (∀ W, Below wr.heap.size wr W → W.cell? ⟨w.heap.size, 0, none⟩ = some m0 ∧ W.cell? ⟨w.heap.size, 1, none⟩ = some m1 ∧ W.cell? ⟨w.heap.size, 2, none⟩ = some m2 ∧ W.cell? ⟨w.heap.size, 3, none⟩ = some m3 ∧ W.cell? ⟨w.heap.size, 4, none⟩ = some m4 ∧ W.cell? ⟨w.heap.size, 5, none⟩ = some m5 ∧ W.cell? ⟨w.heap.size, 6, none⟩ = some m6 ∧ W.cell? ⟨w.heap.size, 7, none⟩ = some m7 ∧ W.cell? ⟨w.heap.size, 8, none⟩ = some m8 ∧ W.cell? ⟨w.heap.size, 9, none⟩ = some m9 ∧ W.cell? ⟨w.heap.size + 1, 0, none⟩ = some (.slice (some ⟨bv, ov, none⟩) n cp) ∧ W.cell? ⟨bv, ov + k * 3, none⟩ = some (.int .i64 v.event) ∧ W.cell? ⟨bv, ov + k * 3 + 1, none⟩ = some (.int .i64 v.user) ∧ W.cell? ⟨bv, ov + k * 3 + 2, none⟩ = some (.slice av v.vals.length kv)) := by
        intro W hW
        have xm4 := HXM.out.keep (HB.out.trans (hW.mono HB.out.size))
        have xt4 := HXT.out.keep (HB.out.trans (hW.mono HB.out.size))
        have m4 := HMV.out.below hW
        exact ⟨xm4.cell (i := 0) rfl, xm4.cell (i := 1) rfl, xm4.cell (i := 2) rfl, xm4.cell (i := 3) rfl, xm4.cell (i := 4) rfl, xm4.cell (i := 5) rfl, xm4.cell (i := 6) rfl, xm4.cell (i := 7) rfl, xm4.cell (i := 8) rfl, xm4.cell (i := 9) rfl, xt4.cell (i := 0) rfl, m4.c0, m4.c1, m4.c2⟩
      have HLN : Hid (∀ W, Below wr.heap.size wr W → Calls Tryd.prog 11 #[.agg #[m0, m1, m2, m3, m4, m5, m6, m7, m8, m9], .agg #[.int .i64 v.event, .int .i64 v.user, .slice av v.vals.length kv]] W fun e w' => ∃ s, e = .returned (.tuple #[.string s, .bool (lineOK M v)]) ∧ Hid (lineOK M v = true → s = lineT M v) ∧ Below W.heap.size W w') := fun W hW =>
        rtline_any v (HT.out.keep (HBW.out.trans (hW.mono HBW.out.size))) (HM.out.below (HBW.out.trans (hW.mono HBW.out.size))) (HMV.out.below hW).vals HS.out HVS.out
      have hz1 := catL hsz hk hn1024
      clear hvk hgd hsv hmv
      obtain ⟨ok, hok⟩ : ∃ b, lineOK M v = b := ⟨_, rfl⟩
      have HOK := Lib.hid hok
      rw [hok] at HLN
      clear hok
      by_cases hkl : (k : Int) = lp
      · have HAC2 : Hid (accL M t (k + 1) = S ++ loopW ++ lineT M v) := by unfold Hid; rw [HAC.out, if_pos hkl]
        clear HAC
        subst hkl
        go_upto_region 11 with fail
        obtain ⟨c0, c1, c2, c3, c4, c5, c6, c7, c8, c9, x0, y0, y1, y2⟩ := HSF.out wr (Below.refl _ _)
        have hbz : Below wr.heap.size wr wr.drew := (Below.refl _ _).drew
        go_cut [8, 9] from 25 to 52 (fun s8 s9 wx => ∃ s, s8 = .string s ∧ s9 = .bool ok ∧ Hid (ok = true → s = lineT M v) ∧ Hid (Below wr.heap.size wr wx))
        case first =>
          go_region_held3 (fun w' => w'.cell? ⟨w.heap.size, 0, none⟩ = some m0 ∧ w'.cell? ⟨w.heap.size, 1, none⟩ = some m1 ∧ w'.cell? ⟨w.heap.size, 2, none⟩ = some m2 ∧ w'.cell? ⟨w.heap.size, 3, none⟩ = some m3 ∧ w'.cell? ⟨w.heap.size, 4, none⟩ = some m4 ∧ w'.cell? ⟨w.heap.size, 5, none⟩ = some m5 ∧ w'.cell? ⟨w.heap.size, 6, none⟩ = some m6 ∧ w'.cell? ⟨w.heap.size, 7, none⟩ = some m7 ∧ w'.cell? ⟨w.heap.size, 8, none⟩ = some m8 ∧ w'.cell? ⟨w.heap.size, 9, none⟩ = some m9 ∧ w'.cell? ⟨w.heap.size + 1, 0, none⟩ = some (.slice (some ⟨bv, ov, none⟩) n cp) ∧ w'.cell? ⟨bv, ov + k * 3, none⟩ = some (.int .i64 v.event) ∧ w'.cell? ⟨bv, ov + k * 3 + 1, none⟩ = some (.int .i64 v.user) ∧ w'.cell? ⟨bv, ov + k * 3 + 2, none⟩ = some (.slice av v.vals.length kv))
              (first | (with_reducible exact HSF.out _ (by assumption)) | go_keep)
              (first
                | (go_simp; go_at_call 11; (with_reducible refine (HLN.out _ (by assumption)).mono ?_)
                   rintro e w5 ⟨s, rfl, HLS, hbs⟩
                   have hbz := hbz.trans (hbs.mono hbz.size)
                   clear hbs))
          all_goals
            go_wp2_with fail
            go_meet
            exact ⟨s, rfl, rfl, HLS, Lib.hid hbz⟩
        case rest =>
          clear hbz c0 c1 c2 c3 c4 c5 c6 c7 c8 c9 x0 y0 y1 y2
          obtain ⟨s, rfl, rfl, HLS, HBC⟩ := hcut
          have HBW5 := Lib.hid (HBW.out.trans (HBC.out.mono HBW.out.size))
          have HB5 := Lib.hid (HB.out.trans (HBC.out.mono HB.out.size))
          cases ok
          · have HF := Lib.hid (textE_bad (M := M) (t := t) HN0.out HNL.out (k := k) (by rw [HN.out]; exact hlt) (HVK.out _ HOK.out))
            go_wp2_with fail
            go_ret2
            exact ⟨by rw [HF.out.1, HF.out.2]; rfl, HBW5.out⟩
          · have HSL := Lib.hid (HLS.out rfl)
            have hls := line_size HS.out HVS.out HOK.out
            rw [← HSL.out] at hls
            have hz2 := catN hsz hk hn1024 hls
            have HLS2 : Hid (linesOK M t (k + 1) = true) := by unfold Hid; rw [linesOK_succ, HL.out, HVK.out _ HOK.out]; rfl
            have HAC3 : Hid (accL M t (k + 1) = S ++ loopW ++ s) := by unfold Hid; rw [HAC2.out, HSL.out]
            clear HLS HAC2
            go_wp2_with fail
            go_roundw
            case rel => exact ⟨k + 1, by omega, by go_num, by rw [HAC3.out]; rfl, HLS2, HB5⟩
            case measure => simp [intOf]; omega
      · have HAC2 : Hid (accL M t (k + 1) = S ++ lineT M v) := by unfold Hid; rw [HAC.out, if_neg hkl]
        clear HAC
        go_upto_region 11 with fail
        obtain ⟨c0, c1, c2, c3, c4, c5, c6, c7, c8, c9, x0, y0, y1, y2⟩ := HSF.out wr (Below.refl _ _)
        have hbz : Below wr.heap.size wr wr.drew := (Below.refl _ _).drew
        go_cut [8, 9] from 25 to 52 (fun s8 s9 wx => ∃ s, s8 = .string s ∧ s9 = .bool ok ∧ Hid (ok = true → s = lineT M v) ∧ Hid (Below wr.heap.size wr wx))
        case first =>
          go_region_held3 (fun w' => w'.cell? ⟨w.heap.size, 0, none⟩ = some m0 ∧ w'.cell? ⟨w.heap.size, 1, none⟩ = some m1 ∧ w'.cell? ⟨w.heap.size, 2, none⟩ = some m2 ∧ w'.cell? ⟨w.heap.size, 3, none⟩ = some m3 ∧ w'.cell? ⟨w.heap.size, 4, none⟩ = some m4 ∧ w'.cell? ⟨w.heap.size, 5, none⟩ = some m5 ∧ w'.cell? ⟨w.heap.size, 6, none⟩ = some m6 ∧ w'.cell? ⟨w.heap.size, 7, none⟩ = some m7 ∧ w'.cell? ⟨w.heap.size, 8, none⟩ = some m8 ∧ w'.cell? ⟨w.heap.size, 9, none⟩ = some m9 ∧ w'.cell? ⟨w.heap.size + 1, 0, none⟩ = some (.slice (some ⟨bv, ov, none⟩) n cp) ∧ w'.cell? ⟨bv, ov + k * 3, none⟩ = some (.int .i64 v.event) ∧ w'.cell? ⟨bv, ov + k * 3 + 1, none⟩ = some (.int .i64 v.user) ∧ w'.cell? ⟨bv, ov + k * 3 + 2, none⟩ = some (.slice av v.vals.length kv))
              (first | (with_reducible exact HSF.out _ (by assumption)) | go_keep)
              (first
                | (go_simp; go_at_call 11; (with_reducible refine (HLN.out _ (by assumption)).mono ?_)
                   rintro e w5 ⟨s, rfl, HLS, hbs⟩
                   have hbz := hbz.trans (hbs.mono hbz.size)
                   clear hbs))
          all_goals
            go_wp2_with fail
            go_meet
            exact ⟨s, rfl, rfl, HLS, Lib.hid hbz⟩
        case rest =>
          clear hbz c0 c1 c2 c3 c4 c5 c6 c7 c8 c9 x0 y0 y1 y2
          obtain ⟨s, rfl, rfl, HLS, HBC⟩ := hcut
          have HBW5 := Lib.hid (HBW.out.trans (HBC.out.mono HBW.out.size))
          have HB5 := Lib.hid (HB.out.trans (HBC.out.mono HB.out.size))
          cases ok
          · have HF := Lib.hid (textE_bad (M := M) (t := t) HN0.out HNL.out (k := k) (by rw [HN.out]; exact hlt) (HVK.out _ HOK.out))
            go_wp2_with fail
            go_ret2
            exact ⟨by rw [HF.out.1, HF.out.2]; rfl, HBW5.out⟩
          · have HSL := Lib.hid (HLS.out rfl)
            have hls := line_size HS.out HVS.out HOK.out
            rw [← HSL.out] at hls
            have hz2 := catM hsz hk hn1024 hls
            have HLS2 : Hid (linesOK M t (k + 1) = true) := by unfold Hid; rw [linesOK_succ, HL.out, HVK.out _ HOK.out]; rfl
            have HAC3 : Hid (accL M t (k + 1) = S ++ s) := by unfold Hid; rw [HAC2.out, HSL.out]
            clear HLS HAC2
            go_wp2_with fail
            go_roundw
            case rel => exact ⟨k + 1, by omega, by go_num, by rw [HAC3.out], HLS2, HB5⟩
            case measure => simp [intOf]; omega
    · obtain rfl : k = n := by omega
      have HF := Lib.hid (textE_good (M := M) (t := t) HN0.out HNL.out (by rw [HN.out]; exact HL.out))
      have HFT : Hid (textT M t = S) := by unfold Hid; rw [HF.out.2, HN.out, HSS.out]
      go_wp2_with fail
      go_ret2
      exact ⟨by rw [HF.out.1, HFT.out]; rfl, HBW.out⟩

end Go.Proofs.YtgmijfmbbaipfaaDoor
