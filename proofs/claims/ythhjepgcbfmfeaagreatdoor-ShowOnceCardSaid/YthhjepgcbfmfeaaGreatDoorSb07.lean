/- Contract of the token reader's rest. Plain: the runes of a text lie in it one behind the other, and what a row of ASCII runes is as a text; what the token reader's steps ask. Contract of the token reader's one. -/
import Derived.Test.YthhjepgcbfmfeaaGreatDoorSb06
import Derived.Test.YthhjepgcbfmfeaaGreatDoorSb05

namespace Go.Proofs.YthhjepgcbfmfeaaGreatDoor
open Go.RowKit

theorem Rd.moved {w : World} {B b : Nat} {s : ByteArray} {L : List Rn} {lv : Value} {i : Nat} {ov : Value} {T : List Tk} (h : Rd w B b s L lv i ov T) (j : Nat) : Rd (w.setCell ⟨b, 2, none⟩ (.int .i64 j)) B b s L lv j ov T :=
  ⟨heap_setCell_same w b 2 _ _ _ h.blk, h.low, owns_setCell h.run h.blk (by decide) _ _, owns_setCell h.out h.blk (by decide) _ _⟩
theorem Took.moved {w w' : World} {B b : Nat} {s : ByteArray} {L : List Rn} {lv : Value} {i : Nat} {ov : Value} {T : List Tk} (h : Took w w' B b s L lv i ov T) (j : Nat) : Took w (w'.setCell ⟨b, 2, none⟩ (.int .i64 j)) B b s L lv j ov T :=
  ⟨h.rd.moved j, h.low.setCell (p := ⟨b, 2, none⟩) h.rd.low _, h.kept.setCell ⟨b, 2, none⟩ rfl _⟩

theorem Rd.drewN {w : World} {B b : Nat} {s : ByteArray} {L : List Rn} {lv : Value} {i : Nat} {ov : Value} {T : List Tk} (h : Rd w B b s L lv i ov T) (n : Nat) : Rd (w.drewN n) B b s L lv i ov T := ⟨h.blk, h.low, h.run, h.out⟩

set_option maxHeartbeats 1000000 in
theorem rune_q {w : World} {B b : Nat} {s : ByteArray} {L : List Rn} {lv : Value} {i : Nat} {ov : Value} {T : List Tk} (h : Rd w B b s L lv i ov T) (n : Nat) (r : Int) (hr : rAt L (i + n) = r) (hL : L.length ≤ 16385) (hi : i ≤ 16385) (hn : n ≤ 16385) :
    Calls Tryz.prog 33 #[.pointer (some ⟨b, 0, none⟩), .int .i64 n] w fun e w' => e = .returned (.int .i32 r) ∧ ∃ m, w' = w.drewN m := by
  obtain ⟨c0, c1, c2, c3, f2, f3⟩ := h.facts
  by_cases hlt : i + n < L.length
  · obtain ⟨x, hx⟩ : ∃ x, L[i + n]? = some x := ⟨_, List.getElem?_eq_getElem hlt⟩
    have HA := Lib.hid ((rAt_some hx).symm.trans hr)
    obtain ⟨g, cap, rfl, d0, d1, d2, d3, d4⟩ := h.rune hx
    have hz1 : (i : Int) + n < (L.length : Int) := by omega
    have hz0 : (0 : Int) ≤ (i : Int) + n := by omega
    have ht : ((i : Int) + (n : Int)).toNat = i + n := by omega
    clear h hx d1 d2 d3 d4 c0 c3 f2 f3 hr
    go_enter Tryz.func33, Tryz.ntmps33
    go_wp2
    go_quiet (fail)
    go_wp2
    go_quiet (fail)
    go_wp2
    go_ret
    exact ⟨by rw [HA.out]; rfl, ⟨_, by rw [World.drewN_drewN]⟩⟩
  · have HA := Lib.hid ((rAt_none (L := L) (i := i + n) (by omega)).symm.trans hr)
    obtain ⟨ad, cap, rfl⟩ := owns_len h.run
    have hz1 : ¬ (i : Int) + n < (L.length : Int) := by omega
    clear h c0 c3 f2 f3 hr
    go_enter Tryz.func33, Tryz.ntmps33
    go_wp2
    go_quiet (fail)
    go_wp2
    go_ret
    exact ⟨by rw [HA.out]; rfl, ⟨_, rfl⟩⟩

/-- where the reader stands -/
def placeOf (w : World) (b : Nat) : Nat := match w.cell? ⟨b, 2, none⟩ with | some v => (intOf v).toNat | none => 0
theorem Rd.place {w : World} {B b : Nat} {s : ByteArray} {L : List Rn} {lv : Value} {i : Nat} {ov : Value} {T : List Tk} (h : Rd w B b s L lv i ov T) : placeOf w b = i := by
  unfold placeOf; rw [h.facts.2.2.1]; simp [intOf]

set_option maxHeartbeats 2000000 in
theorem rest_any {w : World} {B b : Nat} {s : ByteArray} {L : List Rn} {lv : Value} {i : Nat} {ov : Value} {T : List Tk} (h : Rd w B b s L lv i ov T) (hB : B ≤ w.heap.size) (hL : L.length ≤ 16385) (hi : i ≤ L.length) :
    Calls Tryz.prog 35 #[.pointer (some ⟨b, 0, none⟩)] w (Stepped w B b s L lv (restT L i T)) := by
  have hbl := h.lt
  have H0 := Lib.hid ((Took.of_rd (h.keep ((Below.refl _ _).alloc (Nat.le_refl _) (.cells #[.int .i64 0, .int .i64 0, .int .i64 0] 31)))).after ((Below.refl _ _).alloc (Nat.le_refl _) _) hB)
  have F0 := Lib.hid (FltAt.new w 0 0 0)
  clear h
  go_enter Tryz.func35, Tryz.ntmps35
  go_wp2
  go_loopw [] (fun wr => ∃ (k : Nat), k ≤ L.length ∧ Took w wr B b s L lv k ov T ∧ FltAt wr w.heap.size 0 0 0 ∧ Hid (rowE restB L i = rowE restB L k)) (fun wr => L.length - placeOf wr b)
  case atStart => exact ⟨i, hi, H0.out, F0.out, rfl⟩
  case round =>
    obtain ⟨k, hk, hK, hF, HE⟩ := hrel
    have hbr := hK.rd.lt
    obtain ⟨ad, cap, hlv⟩ := owns_len hK.rd.run
    obtain ⟨c0, c1, c2, c3, f2, f3⟩ := hK.rd.facts
    rw [hlv] at c1
    have HLV := Lib.hid hlv
    have HK := Lib.hid hK
    have HF := Lib.hid hF
    clear hlv hK H0 F0 c0 c3 f3
    by_cases hlt : k < L.length
    · obtain ⟨x, hx⟩ : ∃ x, L[k]? = some x := ⟨_, List.getElem?_eq_getElem hlt⟩
      obtain ⟨r, hr⟩ : ∃ r, x.r = r := ⟨_, rfl⟩
      have HA := Lib.hid ((rAt_some hx).trans hr)
      have HX := Lib.hid hx
      have hz : (k : Int) < (L.length : Int) := by omega
      clear hx hr
      by_cases h10 : r = 10
      · subst h10
        have HS2 : Hid (restT L i T = ⟨0, 0, 0, k, T⟩) := by
          unfold Hid restT; rw [HE.out, rowE_no _ _ _ (by rw [HA.out]; rfl), if_neg]; rw [HA.out]; omega
        obtain ⟨a0, a1, a2, a3, a4, a5⟩ := hF.facts
        go_wp2
        go_quiet ((go_at_call 33; exact Calls.quiet_of (rune_q (HK.out.rd.drewN _) 0 10 HA.out hL (by omega) (by omega))))
        have HK6 := Lib.hid ((HK.out.drewN nq).stored (Nat.le_refl _) hbl hB (HF.out.drewN nq) 0 0 0)
        obtain ⟨e0, e1, e2, _, _, _⟩ := ((HF.out.drewN nq).stored 0 0 0).facts
        clear hF
        go_wp2
        exact bodyPost_ret (v := .agg #[.int .i64 0, .int .i64 0, .int .i64 0]) (by simp [results, Tryz.results35, go_sem, e0, e1, e2]) rfl ⟨by rw [HS2.out]; rfl, ⟨_, by rw [HS2.out]; exact HK6.out⟩⟩
      · have h10' : (r == 10) = false := beq_eq_false_iff_ne.2 h10
        by_cases hb1 : r = -1
        · subst hb1
          have HS2 : Hid (restT L i T = ⟨1, x.line, x.col, k, T⟩) := by
            unfold Hid restT; rw [HE.out, rowE_no _ _ _ (by rw [HA.out]; rfl), if_pos ⟨hlt, by rw [HA.out]⟩, (at_some HX.out).2.2.2.1, (at_some HX.out).2.2.2.2]
          clear hF
          go_wp2
          go_quiet ((go_at_call 33; exact Calls.quiet_of (rune_q (HK.out.rd.drewN _) 0 (-1) HA.out hL (by omega) (by omega))))
          go_wp2_with fail
          refine (rune_q (HK.out.rd.drewN _) 0 (-1) HA.out hL (by omega) (by omega)).mono ?_
          rintro e w' ⟨rfl, m, rfl⟩
          rw [World.drewN_drewN]
          go_wp2_with fail
          refine (fault_any (HK.out.rd.drewN _) 1 x HX.out hL).mono ?_
          rintro e w3 ⟨rfl, hb3⟩
          have HK3 := Lib.hid ((HK.out.drewN _).then hb3 hB)
          have HF3 := Lib.hid ((HF.out.drewN _).below hb3 (HF.out.drewN _).lt)
          clear hb3
          have HK6 := Lib.hid (HK3.out.stored (Nat.le_refl _) hbl hB HF3.out 1 x.line x.col)
          obtain ⟨a0, a1, a2, a3, a4, a5⟩ := HF3.out.facts
          obtain ⟨e0, e1, e2, _, _, _⟩ := (HF3.out.stored 1 x.line x.col).facts
          go_wp2
          exact bodyPost_ret (v := .agg #[.int .i64 1, .int .i64 x.line, .int .i64 x.col]) (by simp [results, Tryz.results35, go_sem, e0, e1, e2]) rfl ⟨by rw [HS2.out]; rfl, ⟨_, by rw [HS2.out]; exact HK6.out⟩⟩
        · have hb1' : (r == -1) = false := beq_eq_false_iff_ne.2 hb1
          have HE2 : Hid (rowE restB L i = rowE restB L (k + 1)) := by
            unfold Hid; rw [HE.out]
            exact rowE_yes _ (by decide) _ _ (by rw [HA.out]; unfold restB; exact decide_eq_true ⟨h10, hb1⟩)
          have hF2 := HF.out
          clear h10 hb1
          go_wp2
          go_quiet ((go_at_call 33; exact Calls.quiet_of (rune_q (HK.out.rd.drewN _) 0 r HA.out hL (by omega) (by omega))))
          go_wp2_with fail
          refine (rune_q (HK.out.rd.drewN _) 0 r HA.out hL (by omega) (by omega)).mono ?_
          rintro e w' ⟨rfl, m, rfl⟩
          rw [World.drewN_drewN]
          have HK7 := Lib.hid ((HK.out.drewN (nq + m)).moved (k + 1))
          have HF7 := Lib.hid ((HF.out.drewN (nq + m)).setOther (g := b) (j := 2) (by omega) (.int .i64 (k + 1 : Nat)))
          go_wp2
          go_roundw
          case rel => exact ⟨k + 1, by omega, HK7.out, HF7.out, HE2⟩
          case measure =>
            have p1 : placeOf ((wr.drewN (nq + m)).setCell ⟨b, 2, none⟩ (.int .i64 ((k : Int) + 1))) b = k + 1 := HK7.out.rd.place
            have p2 : placeOf wr b = k := HK.out.rd.place
            omega
    · have HS2 : Hid (restT L i T = ⟨0, 0, 0, k, T⟩) := by
        unfold Hid restT; rw [HE.out]
        have : rowE restB L k = k := by have := rowE_ge restB L k; omega
        rw [this, if_neg]; omega
      have hz : decide ((k : Int) < (L.length : Int)) = false := decide_eq_false (by omega)
      clear hF
      go_wp2
      go_quiet (fail)
      have HK6 := Lib.hid ((HK.out.drewN nq).stored (Nat.le_refl _) hbl hB (HF.out.drewN nq) 0 0 0)
      obtain ⟨a0, a1, a2, a3, a4, a5⟩ := (HF.out.drewN nq).facts
      obtain ⟨e0, e1, e2, _, _, _⟩ := ((HF.out.drewN nq).stored 0 0 0).facts
      go_wp2
      exact bodyPost_ret (v := .agg #[.int .i64 0, .int .i64 0, .int .i64 0]) (by simp [results, Tryz.results35, go_sem, e0, e1, e2]) rfl ⟨by rw [HS2.out]; rfl, ⟨_, by rw [HS2.out]; exact HK6.out⟩⟩

end Go.Proofs.YthhjepgcbfmfeaaGreatDoor

namespace Go.Proofs.YthhjepgcbfmfeaaGreatDoor
open Go.RowKit

/-- what is asked of a text's runes: they lie in the text, one behind the other; and a rune below 128 is one byte -/
structure RnOk (s : ByteArray) (L : List Rn) : Prop where
  len : L.length ≤ 16385
  le : ∀ (i j : Nat) (x y : Rn), i ≤ j → L[i]? = some x → L[j]? = some y → x.fr ≤ y.to ∧ y.to ≤ s.size
  txtSize : ∀ (i n : Nat), (∀ k, k < n → 0 ≤ rAt L (i + k) ∧ rAt L (i + k) < 128) → (∀ k, k < n → i + k < L.length) → 1 ≤ n → (txt s L i n).size = n
  txtByte : ∀ (i n : Nat), (∀ k, k < n → 0 ≤ rAt L (i + k) ∧ rAt L (i + k) < 128) → (∀ k, k < n → i + k < L.length) → 1 ≤ n → ∀ (k : Nat) (h : k < (txt s L i n).size), (((txt s L i n)[k]'h).toNat : Int) = rAt L (i + k)

theorem runesAt_get (g : Nat → Int) (s : ByteArray) (k p : Nat) (line col : Int) (i : Nat) (x : Rn) (h : (runesAt g s k p line col)[i]? = some x) :
    x.r = g x.fr ∧ x.to = x.fr + decN s x.fr ∧ x.fr < s.size ∧ p ≤ x.fr ∧ (i = 0 → x.fr = p) ∧ ∀ y, (runesAt g s k p line col)[i + 1]? = some y → y.fr = x.to := by
  induction k generalizing p line col i x with
  | zero => simp [runesAt] at h
  | succ k ih =>
    simp only [runesAt] at h ⊢
    by_cases hp : p < s.size
    · rw [if_pos hp] at h ⊢
      cases i with
      | zero =>
        simp only [List.getElem?_cons_zero, Option.some.injEq] at h
        subst h
        refine ⟨rfl, rfl, hp, Nat.le_refl _, fun _ => rfl, fun y hy => ?_⟩
        simp only [List.getElem?_cons_succ] at hy
        exact (ih _ _ _ 0 y hy).2.2.2.2.1 rfl
      | succ i =>
        simp only [List.getElem?_cons_succ] at h ⊢
        obtain ⟨a, b, c, d, _, f⟩ := ih _ _ _ i x h
        exact ⟨a, b, c, by have := decN_pos s p; omega, by omega, f⟩
    · rw [if_neg hp] at h; simp at h

theorem dec_small (s : ByteArray) (p : Nat) (hp : p < s.size) (h0 : 0 ≤ decR s p) (h1 : decR s p < 128) : decN s p = 1 ∧ ((s[p]'hp).toNat : Int) = decR s p := by
  have hg : s.get! p = s[p]'hp := by
    simp [ByteArray.get!, ByteArray.getElem_eq_getElem_data, getElem!_pos, hp]
  unfold decR at h0 h1 ⊢
  unfold decN
  by_cases hq : (Utf8.decode s p).1 = 65533 ∧ (Utf8.decode s p).2 = 1
  · rw [if_pos hq] at h0; omega
  · rw [if_neg hq] at h0 h1 ⊢
    have hb : (s.get! (p + 0)).toNat < 128 → Utf8.decode s p = ((s.get! (p + 0)).toNat, 1) := by
      intro h; unfold Utf8.decode; simp only; rw [if_pos h]
    by_cases hs : (s.get! (p + 0)).toNat < 128
    · rw [hb hs]; refine ⟨rfl, ?_⟩; rw [Nat.add_zero, hg]
    · exfalso
      rcases dec_cases s p with h | h | h | h
      · have hlt : (Utf8.decode s p).1 < 128 := by omega
        revert hlt
        unfold Utf8.decode
        simp only
        rw [if_neg hs]
        repeat' split
        all_goals simp_all [Utf8.runeError]
        all_goals omega
      · omega
      · omega
      · omega

theorem ext_get {t s : ByteArray} {a b k j : Nat} (e : t = s.extract a b) (h : k < t.size) (hj : j = a + k) (h2 : j < s.size) : t[k]'h = s[j]'h2 := by
  subst e; subst hj; rw [ByteArray.getElem_extract]

theorem rnOk (s : ByteArray) (hl : (allR s).length ≤ 16384) : RnOk s (allR s) := by
  have get : ∀ (i : Nat) (x : Rn), (allR s)[i]? = some x → x.r = decR s x.fr ∧ x.to = x.fr + decN s x.fr ∧ x.fr < s.size ∧ ∀ y, (allR s)[i + 1]? = some y → y.fr = x.to := by
    intro i x h
    obtain ⟨a, b, c, _, _, d⟩ := runesAt_get _ _ _ _ _ _ i x h
    exact ⟨a, b, c, d⟩
  have up : ∀ (d i : Nat) (x y : Rn), (allR s)[i]? = some x → (allR s)[i + d]? = some y → x.fr + d ≤ y.fr := by
    intro d
    induction d with
    | zero => intro i x y hx hy; rw [Nat.add_zero, hx] at hy; cases hy; omega
    | succ d ih =>
      intro i x y hx hy
      have hlt := (List.getElem?_eq_some_iff.1 hy).1
      obtain ⟨z, hz⟩ : ∃ z, (allR s)[i + d]? = some z := ⟨_, List.getElem?_eq_getElem (by omega)⟩
      have h1 := ih i x z hx hz
      obtain ⟨_, h2, _, h3⟩ := get _ z hz
      have h4 := h3 y hy
      have h5 := decN_pos s z.fr
      omega
  have le : ∀ (i j : Nat) (x y : Rn), i ≤ j → (allR s)[i]? = some x → (allR s)[j]? = some y → x.fr ≤ y.to ∧ y.to ≤ s.size := by
    intro i j x y hij hx hy
    obtain ⟨d, rfl⟩ : ∃ d, j = i + d := ⟨j - i, by omega⟩
    have h1 := up d i x y hx hy
    obtain ⟨_, h2, h3, _⟩ := get _ y hy
    have h4 := decN_le s y.fr h3
    omega
  have run : ∀ (n i : Nat), (∀ k, k < n → 0 ≤ rAt (allR s) (i + k) ∧ rAt (allR s) (i + k) < 128) → (∀ k, k < n → i + k < (allR s).length) → ∀ k, k < n → ∃ x, (allR s)[i + k]? = some x ∧ x.fr = frAt (allR s) i + k ∧ x.to = x.fr + 1 ∧ ∃ h : x.fr < s.size, ((s[x.fr]'h).toNat : Int) = rAt (allR s) (i + k) := by
    intro n i h hlen k
    induction k with
    | zero =>
      intro hk
      obtain ⟨x, hx⟩ : ∃ x, (allR s)[i + 0]? = some x := ⟨_, List.getElem?_eq_getElem (hlen 0 hk)⟩
      obtain ⟨a, b, c, _⟩ := get _ x hx
      have hr := h 0 hk
      rw [rAt_some hx, a] at hr
      obtain ⟨e1, e2⟩ := dec_small s x.fr c hr.1 hr.2
      refine ⟨x, hx, by rw [Nat.add_zero] at hx ⊢; exact (at_some hx).2.1.symm, by omega, c, ?_⟩
      rw [rAt_some hx, a]; exact e2
    | succ k ih =>
      intro hk
      obtain ⟨z, hz, hzf, hzt, _⟩ := ih (by omega)
      obtain ⟨x, hx⟩ : ∃ x, (allR s)[i + (k + 1)]? = some x := ⟨_, List.getElem?_eq_getElem (hlen _ hk)⟩
      have hxf := (get _ z hz).2.2.2 x hx
      obtain ⟨a, b, c, _⟩ := get _ x hx
      have hr := h (k + 1) hk
      rw [rAt_some hx, a] at hr
      obtain ⟨e1, e2⟩ := dec_small s x.fr c hr.1 hr.2
      refine ⟨x, hx, by omega, by omega, c, ?_⟩
      rw [rAt_some hx, a]; exact e2
  have size : ∀ (i n : Nat), (∀ k, k < n → 0 ≤ rAt (allR s) (i + k) ∧ rAt (allR s) (i + k) < 128) → (∀ k, k < n → i + k < (allR s).length) → 1 ≤ n → (txt s (allR s) i n).size = n := by
    intro i n h hlen hn
    obtain ⟨x, hx, hxf, hxt, hxs, _⟩ := run n i h hlen (n - 1) (by omega)
    unfold txt
    rw [ByteArray.size_extract, (at_some hx).2.2.1]
    omega
  refine ⟨by omega, le, size, ?_⟩
  intro i n h hlen hn k hk
  have hsz := size i n h hlen hn
  obtain ⟨x, hx, hxf, hxt, hxs, hb⟩ := run n i h hlen k (by omega)
  rw [← hb]
  rw [ext_get (t := txt s (allR s) i n) rfl hk (by omega) hxs]

theorem row_facts {q : Int → Bool} {L : List Rn} {i : Nat} (hq : q (-1) = false) (hi : i < L.length) (h0 : q (rAt L i) = true) : 1 ≤ rowE q L i - i ∧ (∀ k, k < rowE q L i - i → i + k < L.length) ∧ ∀ k, k < rowE q L i - i → q (rAt L (i + k)) = true := by
  have h1 := rowE_yes q hq L i h0
  have h2 := rowE_ge q L (i + 1)
  have h3 := rowE_ge q L i
  exact ⟨by omega, fun k hk => by have := h3.2 (by omega); omega, fun k hk => rowE_all q L i (i + k) (by omega) (by omega)⟩

theorem inner_ascii {c : Int} (h : innerB c = true) : 0 ≤ c ∧ c < 128 := by
  unfold innerB letterB smallB greatB digitB at h
  simp at h; omega
theorem digit_ascii {c : Int} (h : digitB c = true) : 48 ≤ c ∧ c ≤ 57 := by
  unfold digitB at h; simpa using h

theorem word_pre {s : ByteArray} {L : List Rn} {i : Nat} (hO : RnOk s L) (hi : i < L.length) (hl : letterB (rAt L i) = true) :
    (∃ y, L[i + (wordN L i - 1)]? = some y) ∧ 1 ≤ wordN L i ∧ (∀ c ∈ (txt s L i (wordN L i)).data.toList, c.toNat < 128) := by
  have hin : innerB (rAt L i) = true := by unfold innerB; rw [hl]; rfl
  obtain ⟨h1, h2, h3⟩ := row_facts (q := innerB) (by decide) hi hin
  have h1' : 1 ≤ wordN L i := h1
  refine ⟨⟨_, List.getElem?_eq_getElem (h2 (wordN L i - 1) (by unfold wordN; omega))⟩, h1, ?_⟩
  intro c hc
  obtain ⟨k, hk⟩ := List.getElem?_of_mem hc
  have hkl := (List.getElem?_eq_some_iff.1 hk).1
  have hks : k < (txt s L i (wordN L i)).size := by simpa using hkl
  have hb := hO.txtByte i (wordN L i) (fun k hk => inner_ascii (h3 k hk)) h2 h1 k hks
  have hsz := hO.txtSize i (wordN L i) (fun k hk => inner_ascii (h3 k hk)) h2 h1
  have hr := inner_ascii (h3 k (by unfold wordN at hsz hks; omega))
  have hce : (txt s L i (wordN L i))[k]'hks = c := by
    rw [List.getElem?_eq_getElem hkl] at hk
    exact Option.some.inj hk
  rw [hce] at hb
  omega

theorem num_pre {s : ByteArray} {L : List Rn} {i : Nat} (hO : RnOk s L) (hi : i < L.length) (hl : isNum L i = true) :
    (∃ y, L[i + (numN L i - 1)]? = some y) ∧ 1 ≤ numN L i ∧ ∃ h0 : 0 < (txt s L i (numN L i)).size,
      (if ((txt s L i (numN L i))[0]'h0).toNat = 45 then DigT ((txt s L i (numN L i)).extract 1 (txt s L i (numN L i)).size) else DigT (txt s L i (numN L i))) ∧ (((txt s L i (numN L i))[0]'h0).toNat = 45) = (rAt L i = 45) := by
  have h1 : 1 ≤ numN L i := by unfold numN; have := rowE_ge digitB L (i + 1); omega
  have hle : ∀ k, k < numN L i → i + k < L.length := by
    intro k hk; unfold numN at hk; have := (rowE_ge digitB L (i + 1)).2 (by omega); omega
  have hdig : ∀ k, 1 ≤ k → k < numN L i → digitB (rAt L (i + k)) = true := by
    intro k hk1 hk; unfold numN at hk
    exact rowE_all digitB L (i + 1) (i + k) (by omega) (by omega)
  have h0r : digitB (rAt L i) = true ∨ rAt L i = 45 := by
    unfold isNum at hl; simp at hl
    rcases hl with h | ⟨h, _⟩
    · exact .inl h
    · exact .inr h
  have hasc : ∀ k, k < numN L i → 0 ≤ rAt L (i + k) ∧ rAt L (i + k) < 128 := by
    intro k hk
    cases k with
    | zero =>
      rw [Nat.add_zero]
      rcases h0r with h | h
      · have := digit_ascii h; omega
      · omega
    | succ k => have := digit_ascii (hdig (k + 1) (by omega) hk); omega
  have hsz := hO.txtSize i (numN L i) hasc hle h1
  have hby := hO.txtByte i (numN L i) hasc hle h1
  have h0 : 0 < (txt s L i (numN L i)).size := by omega
  have hb0 := hby 0 h0
  rw [Nat.add_zero] at hb0
  refine ⟨⟨_, List.getElem?_eq_getElem (hle (numN L i - 1) (by omega))⟩, h1, h0, ?_, ?_⟩
  · split
    · intro k hk
      rw [ByteArray.getElem_extract]
      have hks : 1 + k < (txt s L i (numN L i)).size := by rw [ByteArray.size_extract] at hk; omega
      have hb := hby (1 + k) hks
      have := digit_ascii (hdig (1 + k) (by omega) (by omega))
      omega
    · rename_i hn
      intro k hk
      have hb := hby k hk
      cases k with
      | zero =>
        rw [Nat.add_zero] at hb
        rcases h0r with h | h
        · have := digit_ascii h; omega
        · omega
      | succ k =>
        have := digit_ascii (hdig (k + 1) (by omega) (by omega))
        omega
  · apply propext; omega

end Go.Proofs.YthhjepgcbfmfeaaGreatDoor

namespace Go.Proofs.YthhjepgcbfmfeaaGreatDoor
open Go.RowKit

theorem PosAt.took {w w' : World} {B b k : Nat} {s : ByteArray} {L : List Rn} {lv : Value} {i : Nat} {ov : Value} {T : List Tk} {t : TypeId} {line col : Int} (h : PosAt w k t line col) (ht : Took w w' B b s L lv i ov T) (hkb : k ≠ b) (hne : t ≠ 54) : PosAt w' k t line col :=
  ht.kept k _ h (fun e => hkb (Option.some.inj e)) (fun c fz e => by simp at e; exact hne e.2.1)

theorem MaxCell.drewN {w : World} (h : MaxCell w) (n : Nat) : MaxCell (w.drewN n) := by
  obtain ⟨m, hm⟩ := h; exact ⟨m, by simpa using hm⟩
theorem PosAt.drewN {w : World} {k : Nat} {t : TypeId} {line col : Int} (h : PosAt w k t line col) (n : Nat) : PosAt (w.drewN n) k t line col := h
theorem le_drewN {B : Nat} {w : World} (h : B ≤ w.heap.size) (n : Nat) : B ≤ (w.drewN n).heap.size := by simpa using h

set_option maxHeartbeats 4000000 in
theorem one_word {w : World} {B b : Nat} {s : ByteArray} {L : List Rn} {lv : Value} {i : Nat} {ov : Value} {T : List Tk} (h : Rd w B b s L lv i ov T) (hm : MaxCell w) (hB0 : 2 < B) (hB : B ≤ w.heap.size) (hO : RnOk s L) (hT : T.length ≤ 5000) (hs : s.size ≤ 4294967200) (hi : i < L.length) (hway : blankB (rAt L i) = false → rAt L i ≠ 35 → letterB (rAt L i) = true) :
    Calls Tryz.prog 24 #[.pointer (some ⟨b, 0, none⟩)] w (Stepped w B b s L lv (oneT s L i T)) := by
  have hL := hO.len
  obtain ⟨x, hx⟩ : ∃ x, L[i]? = some x := ⟨_, List.getElem?_eq_getElem hi⟩
  obtain ⟨c, hc⟩ : ∃ c, rAt L i = c := ⟨_, rfl⟩
  have hbl := h.lt
  have HR := Lib.hid h
  have HC := Lib.hid (show rAt L (i + 0) = c from hc)
  have HM := Lib.hid hm
  have HX := Lib.hid hx
  have hS : oneT s L i T = if blankB c then ⟨0, 0, 0, i + 1, T⟩ else if c = 35 then restT L i T else capT L i (tokT s L i T) := by unfold oneT; rw [hc]
  have HS := Lib.hid hS
  obtain ⟨c0, c1, c2, c3, f2, f3⟩ := h.facts
  obtain ⟨g, cap, rfl, _, _, _, d3, d4⟩ := h.rune hx
  have hgl := World.block_lt_of_cell? w _ d3
  have hiz : (i : Int) < (L.length : Int) := by omega
  clear h hc hm hx hS
  go_enter Tryz.func24, Tryz.ntmps24
  go_wp2_with fail
  refine (rune_q (HR.out.keep ((Below.refl _ _).alloc (Nat.le_refl _) _)) 0 c HC.out hL (by omega) (by omega)).mono ?_
  rintro e w1 ⟨rfl, m, rfl⟩
  have HK1 := Lib.hid ((Took.of_rd (HR.out.keep ((Below.refl _ _).alloc (Nat.le_refl _) (.cells #[.int .i64 0, .int .i64 0, .int .i64 0] 31)))).after ((Below.refl _ _).alloc (Nat.le_refl _) _) hB)
  have HF1 := Lib.hid (FltAt.new w 0 0 0)
  go_wp2_with fail
  refine (blankB_any c _).mono ?_
  rintro e w' ⟨rfl, rfl⟩
  cases hbl1 : blankB c
  · have hS : oneT s L i T = if c = 35 then restT L i T else capT L i (tokT s L i T) := by rw [HS.out, hbl1]; rfl
    have HS1 := Lib.hid hS
    have HBL := Lib.hid (show blankB (rAt L i) = false by rw [show rAt L i = c from HC.out]; exact hbl1)
    clear hS hbl1
    by_cases h35 : c = 35
    · subst h35
      obtain ⟨⟨er, line, col, j, T2⟩, hr⟩ : ∃ r, restT L i T = r := ⟨_, rfl⟩
      have HRR := Lib.hid ((show oneT s L i T = restT L i T from HS1.out).trans hr)
      have HRR2 := Lib.hid hr
      clear hr
      go_wp2_with fail
      refine (rest_any (HK1.out.rd.drewN m) (by simp; omega) hL (by omega)).mono ?_
      rw [HRR2.out]
      rintro e w3 ⟨rfl, ov3, hk⟩
      have hfr := (HF1.out.drewN m).took hk (by omega)
      have HK := Lib.hid (hk.after (Go.below_drewN ((Below.refl _ w).alloc (Nat.le_refl _) _) m) hB)
      clear hk
      obtain ⟨a0, a1, a2, a3, a4, a5⟩ := hfr.facts
      have HFR := Lib.hid hfr
      clear hfr
      by_cases her : er = 0
      · subst her
        have HK6 := Lib.hid (HK.out.stored (Nat.le_refl _) hbl hB HFR.out 0 0 0)
        obtain ⟨e0, e1, e2, _, _, _⟩ := (HFR.out.stored 0 0 0).facts
        rw [faultV_ok]
        go_wp2
        exact bodyPost_ret (v := .agg #[.int .i64 0, .int .i64 0, .int .i64 0]) (by simp [results, Tryz.results24, go_sem, e0, e1, e2]) rfl ⟨by rw [HRR.out]; rfl, ⟨_, by rw [HRR.out]; exact HK6.out⟩⟩
      · have HK6 := Lib.hid (HK.out.stored (Nat.le_refl _) hbl hB HFR.out er line col)
        obtain ⟨e0, e1, e2, _, _, _⟩ := (HFR.out.stored er line col).facts
        rw [faultV_no her]
        have HER := Lib.hid her
        clear her
        go_wp2
        exact bodyPost_ret (v := .agg #[.int .i64 er, .int .i64 line, .int .i64 col]) (by simp [results, Tryz.results24, go_sem, e0, e1, e2]) rfl ⟨by rw [HRR.out]; show _ = Ending.returned (faultV er line col); rw [faultV_no HER.out], ⟨_, by rw [HRR.out]; exact HK6.out⟩⟩
    · have h35' : (c == 35) = false := beq_eq_false_iff_ne.2 h35
      go_wp2_with fail
      go_region_held3 (fun w' => w'.cell? ⟨b, 1, none⟩ = some (.slice (some ⟨g, 0, none⟩) L.length cap) ∧ w'.cell? ⟨b, 2, none⟩ = some (.int .i64 i) ∧ w'.cell? ⟨g, i * 5 + 3, none⟩ = some (.int .i64 x.line) ∧ w'.cell? ⟨g, i * 5 + 4, none⟩ = some (.int .i64 x.col))
        (first | go_keep)
        (first | fail)
      have HB3 := Lib.hid ((Go.below_drewN ((Below.refl _ w).alloc (Nat.le_refl _) (.cells #[.int .i64 0, .int .i64 0, .int .i64 0] 31)) (m + 1)).alloc (by simp) (.cells #[.int .i64 x.line, .int .i64 x.col] 29))
      have HF3 := Lib.hid ((HF1.out.drewN (m + 1)).alloc (.cells #[.int .i64 x.line, .int .i64 x.col] 29))
      have HR3 := Lib.hid (HR.out.keep HB3.out)
      have HM3 := Lib.hid (HM.out.below HB3.out (by omega))
      have hp3 : PosAt (((w.alloc (.cells #[.int .i64 0, .int .i64 0, .int .i64 0] 31)).drewN (m + 1)).alloc (.cells #[.int .i64 x.line, .int .i64 x.col] 29)) (w.heap.size + 1) 29 x.line x.col := by
        have := heap_alloc_new ((w.alloc (.cells #[.int .i64 0, .int .i64 0, .int .i64 0] 31)).drewN (m + 1)) (.cells #[.int .i64 x.line, .int .i64 x.col] 29)
        rw [show ((w.alloc (.cells #[.int .i64 0, .int .i64 0, .int .i64 0] 31)).drewN (m + 1)).heap.size = w.heap.size + 1 by simp] at this
        exact this
      have HP3 := Lib.hid hp3
      have hB3 : B ≤ (((w.alloc (.cells #[.int .i64 0, .int .i64 0, .int .i64 0] 31)).drewN (m + 1)).alloc (.cells #[.int .i64 x.line, .int .i64 x.col] 29)).heap.size := by have := HB3.out.size; omega
      have HBB := Lib.hid hB3
      clear hp3 hB3
      go_wp2_with fail
      refine (letterB_any c _).mono ?_
      rintro e w' ⟨rfl, rfl⟩
      cases hlet : letterB c
      · have h9 := hway HBL.out (fun e2 => h35 ((show rAt L i = c from HC.out).symm.trans e2))
        rw [show rAt L i = c from HC.out, hlet] at h9
        cases h9
      · obtain ⟨⟨y, hy⟩, hn1, hasc⟩ := word_pre hO hi (by rw [show rAt L i = c from HC.out]; exact hlet)
        have hg := hO.le _ _ x y (by omega) HX.out hy
        have HW := Lib.hid (And.intro hy (And.intro hasc hg))
        have HLET := Lib.hid hlet
        clear hlet hy hasc hg
        obtain ⟨⟨er, line, col, j, T2⟩, hr⟩ : ∃ r, wordT s L i T = r := ⟨_, rfl⟩
        have HRR := Lib.hid ((show oneT s L i T = capT L i (wordT s L i T) by rw [HS1.out, if_neg h35]; unfold tokT; rw [show rAt L i = c from HC.out, HLET.out]; rfl).trans (by rw [hr]))
        have HRR2 := Lib.hid hr
        clear hr
        go_wp2_with fail
        refine (word_any HR3.out HM3.out hB0 HBB.out hL (by omega) hs x y HX.out HW.out.1 hn1 HW.out.2.2.1 HW.out.2.2.2 HW.out.2.1).mono ?_
        rw [HRR2.out]
        rintro e w4 ⟨rfl, ov4, hk⟩
        have hfr := HF3.out.took hk (by omega)
        have hfp := HP3.out.took hk (by omega) (by decide)
        have HK := Lib.hid (hk.after HB3.out hB)
        clear hk
        obtain ⟨a0, a1, a2, a3, a4, a5⟩ := hfr.facts
        obtain ⟨p0, p1, p2, p3⟩ := hfp.facts
        have HFR := Lib.hid hfr
        have hfl := hfr.lt
        have hpl := hfp.lt
        have hbl4 := HK.out.rd.lt
        obtain ⟨ad4, cap4, hov4⟩ := owns_len HK.out.rd.out
        obtain ⟨_, _, _, q3, _, _⟩ := HK.out.rd.facts
        rw [hov4] at q3
        clear hfr hfp hov4
        by_cases her : er = 0
        · subst her
          rw [faultV_ok]
          by_cases hcap : 4096 < T2.length
          · have hcz : (4096 : Int) < (T2.length : Int) := by omega
            have HE : Hid (oneT s L i T = ⟨3, x.line, x.col, j, T2⟩) := by
              unfold Hid; rw [HRR.out]; unfold capT; rw [if_neg (by simp), if_pos hcap, (at_some HX.out).2.2.2.1, (at_some HX.out).2.2.2.2]
            have HK6 := Lib.hid ((HK.out.stored (Nat.le_refl _) hbl hB HFR.out 3 x.line x.col).then ((Below.refl _ _).alloc (Nat.le_refl _) (.cells #[.int .i64 0, .int .i64 0, .int .i64 0] 31)) hB)
            obtain ⟨e0, e1, e2, _, _, _⟩ := ((HFR.out.stored 3 x.line x.col).alloc (.cells #[.int .i64 0, .int .i64 0, .int .i64 0] 31)).facts
            clear hcap
            go_wp2
            exact bodyPost_ret (v := .agg #[.int .i64 3, .int .i64 x.line, .int .i64 x.col]) (by simp [results, Tryz.results24, go_sem, e0, e1, e2]) rfl ⟨by rw [HE.out]; rfl, ⟨_, by rw [HE.out]; exact HK6.out⟩⟩
          · have hcz : (T2.length : Int) ≤ 4096 := by omega
            have HE : Hid (oneT s L i T = ⟨0, line, col, j, T2⟩) := by
              unfold Hid; rw [HRR.out]; unfold capT; rw [if_neg (by simp), if_neg hcap]
            have HK6 := Lib.hid ((HK.out.stored (Nat.le_refl _) hbl hB HFR.out 0 0 0).then ((Below.refl _ _).alloc (Nat.le_refl _) (.cells #[.int .i64 0, .int .i64 0, .int .i64 0] 31)) hB)
            obtain ⟨e0, e1, e2, _, _, _⟩ := ((HFR.out.stored 0 0 0).alloc (.cells #[.int .i64 0, .int .i64 0, .int .i64 0] 31)).facts
            clear hcap
            go_wp2
            exact bodyPost_ret (v := .agg #[.int .i64 0, .int .i64 0, .int .i64 0]) (by simp [results, Tryz.results24, go_sem, e0, e1, e2]) rfl ⟨by rw [HE.out]; rfl, ⟨_, by rw [HE.out]; exact HK6.out⟩⟩
        · rw [faultV_no her]
          have HE : Hid (oneT s L i T = ⟨er, line, col, j, T2⟩) := by
            unfold Hid; rw [HRR.out]; unfold capT; rw [if_pos her]
          have HK6 := Lib.hid ((HK.out.stored (Nat.le_refl _) hbl hB HFR.out er line col).then ((Below.refl _ _).alloc (Nat.le_refl _) (.cells #[.int .i64 er, .int .i64 line, .int .i64 col] 31)) hB)
          obtain ⟨e0, e1, e2, _, _, _⟩ := ((HFR.out.stored er line col).alloc (.cells #[.int .i64 er, .int .i64 line, .int .i64 col] 31)).facts
          have HER := Lib.hid her
          have hern : (er == 0) = false := beq_eq_false_iff_ne.2 her
          clear her
          go_wp2
          exact bodyPost_ret (v := .agg #[.int .i64 er, .int .i64 line, .int .i64 col]) (by simp [results, Tryz.results24, go_sem, e0, e1, e2]) rfl ⟨by rw [HE.out]; show _ = Ending.returned (faultV er line col); rw [faultV_no HER.out], ⟨_, by rw [HE.out]; exact HK6.out⟩⟩
  · have HS1 : Hid (oneT s L i T = ⟨0, 0, 0, i + 1, T⟩) := by unfold Hid; rw [HS.out, hbl1]; rfl
    clear hbl1
    have HK6 := Lib.hid (((HK1.out.drewN m).moved (i + 1)).stored (Nat.le_refl _) hbl hB ((HF1.out.drewN m).setOther (g := b) (j := 2) (by omega) (.int .i64 (i + 1 : Nat))) 0 0 0)
    obtain ⟨a0, a1, a2, a3, a4, a5⟩ := ((HF1.out.drewN m).setOther (g := b) (j := 2) (by omega) (.int .i64 (i + 1 : Nat))).facts
    obtain ⟨e0, e1, e2, _, _, _⟩ := (((HF1.out.drewN m).setOther (g := b) (j := 2) (by omega) (.int .i64 (i + 1 : Nat))).stored 0 0 0).facts
    go_wp2
    exact bodyPost_ret (v := .agg #[.int .i64 0, .int .i64 0, .int .i64 0]) (by simp [results, Tryz.results24, go_sem]) rfl ⟨by rw [HS1.out]; rfl, ⟨_, by rw [HS1.out]; exact HK6.out⟩⟩

end Go.Proofs.YthhjepgcbfmfeaaGreatDoor
