/- Contract of the token reader's rest. -/
import Derived.Test.YthbbbccefjemmaaDoorTokSign
namespace Go.Proofs.YthbbbccefjemmaaDoor
open Go.RowKit

theorem Rd.moved {w : World} {B b : Nat} {s : ByteArray} {L : List Rn} {lv : Value} {i : Nat} {ov : Value} {T : List Tk} (h : Rd w B b s L lv i ov T) (j : Nat) : Rd (w.setCell ⟨b, 2, none⟩ (.int .i64 j)) B b s L lv j ov T :=
  ⟨heap_setCell_same w b 2 _ _ _ h.blk, h.low, owns_setCell h.run h.blk (by decide) _ _, owns_setCell h.out h.blk (by decide) _ _⟩
theorem Took.moved {w w' : World} {B b : Nat} {s : ByteArray} {L : List Rn} {lv : Value} {i : Nat} {ov : Value} {T : List Tk} (h : Took w w' B b s L lv i ov T) (j : Nat) : Took w (w'.setCell ⟨b, 2, none⟩ (.int .i64 j)) B b s L lv j ov T :=
  ⟨h.rd.moved j, h.low.setCell (p := ⟨b, 2, none⟩) h.rd.low _, h.kept.setCell ⟨b, 2, none⟩ rfl _⟩

theorem Rd.drewN {w : World} {B b : Nat} {s : ByteArray} {L : List Rn} {lv : Value} {i : Nat} {ov : Value} {T : List Tk} (h : Rd w B b s L lv i ov T) (n : Nat) : Rd (w.drewN n) B b s L lv i ov T := ⟨h.blk, h.low, h.run, h.out⟩

set_option maxHeartbeats 1000000 in
theorem rune_q {w : World} {B b : Nat} {s : ByteArray} {L : List Rn} {lv : Value} {i : Nat} {ov : Value} {T : List Tk} (h : Rd w B b s L lv i ov T) (n : Nat) (r : Int) (hr : rAt L (i + n) = r) (hL : L.length ≤ 16385) (hi : i ≤ 16385) (hn : n ≤ 16385) :
    Calls Tryd.prog 23 #[.pointer (some ⟨b, 0, none⟩), .int .i64 n] w fun e w' => e = .returned (.int .i32 r) ∧ ∃ m, w' = w.drewN m := by
  obtain ⟨c0, c1, c2, c3, f2, f3⟩ := h.facts
  by_cases hlt : i + n < L.length
  · obtain ⟨x, hx⟩ : ∃ x, L[i + n]? = some x := ⟨_, List.getElem?_eq_getElem hlt⟩
    have HA := Lib.hid ((rAt_some hx).symm.trans hr)
    obtain ⟨g, cap, rfl, d0, d1, d2, d3, d4⟩ := h.rune hx
    have hz1 : (i : Int) + n < (L.length : Int) := by omega
    have hz0 : (0 : Int) ≤ (i : Int) + n := by omega
    have ht : ((i : Int) + (n : Int)).toNat = i + n := by omega
    clear h hx d1 d2 d3 d4 c0 c3 f2 f3 hr
    go_enter Tryd.func23, Tryd.ntmps23
    go_wp2
    go_quiet (fail)
    go_wp2
    go_quiet (fail)
    go_wp2
    go_ret
    exact ⟨by rw [HA.out]; rfl, ⟨_, by rw [World.drewN_drewN]⟩⟩
  · have HA := Lib.hid ((rAt_none (L := L) (i := i + n) (by omega)).symm.trans hr)
    obtain ⟨ad, cap, rfl⟩ := owns_len h.run
    have hz1 : ¬ (i : Int) + n < (L.length : Int) := by omega
    clear h c0 c3 f2 f3 hr
    go_enter Tryd.func23, Tryd.ntmps23
    go_wp2
    go_quiet (fail)
    go_wp2
    go_ret
    exact ⟨by rw [HA.out]; rfl, ⟨_, rfl⟩⟩

/-- where the reader stands -/
def placeOf (w : World) (b : Nat) : Nat := match w.cell? ⟨b, 2, none⟩ with | some v => (intOf v).toNat | none => 0
theorem Rd.place {w : World} {B b : Nat} {s : ByteArray} {L : List Rn} {lv : Value} {i : Nat} {ov : Value} {T : List Tk} (h : Rd w B b s L lv i ov T) : placeOf w b = i := by
  unfold placeOf; rw [h.facts.2.2.1]; simp [intOf]

set_option maxHeartbeats 2000000 in
theorem rest_any {w : World} {B b : Nat} {s : ByteArray} {L : List Rn} {lv : Value} {i : Nat} {ov : Value} {T : List Tk} (h : Rd w B b s L lv i ov T) (hB : B ≤ w.heap.size) (hL : L.length ≤ 16385) (hi : i ≤ L.length) :
    Calls Tryd.prog 25 #[.pointer (some ⟨b, 0, none⟩)] w (Stepped w B b s L lv (restT L i T)) := by
  have hbl := h.lt
  have H0 := Lib.hid ((Took.of_rd (h.keep ((Below.refl _ _).alloc (Nat.le_refl _) (.cells #[.int .i64 0, .int .i64 0, .int .i64 0] 28)))).after ((Below.refl _ _).alloc (Nat.le_refl _) _) hB)
  have F0 := Lib.hid (FltAt.new w 0 0 0)
  clear h
  go_enter Tryd.func25, Tryd.ntmps25
  go_wp2
  go_loopw [] (fun wr => ∃ (k : Nat), k ≤ L.length ∧ Took w wr B b s L lv k ov T ∧ FltAt wr w.heap.size 0 0 0 ∧ Hid (rowE restB L i = rowE restB L k)) (fun wr => L.length - placeOf wr b)
  case atStart => exact ⟨i, hi, H0.out, F0.out, rfl⟩
  case round =>
    obtain ⟨k, hk, hK, hF, HE⟩ := hrel
    have hbr := hK.rd.lt
    obtain ⟨ad, cap, hlv⟩ := owns_len hK.rd.run
    obtain ⟨c0, c1, c2, c3, f2, f3⟩ := hK.rd.facts
    rw [hlv] at c1
    have HLV := Lib.hid hlv
    have HK := Lib.hid hK
    have HF := Lib.hid hF
    clear hlv hK H0 F0 c0 c3 f3
    by_cases hlt : k < L.length
    · obtain ⟨x, hx⟩ : ∃ x, L[k]? = some x := ⟨_, List.getElem?_eq_getElem hlt⟩
      obtain ⟨r, hr⟩ : ∃ r, x.r = r := ⟨_, rfl⟩
      have HA := Lib.hid ((rAt_some hx).trans hr)
      have HX := Lib.hid hx
      have hz : (k : Int) < (L.length : Int) := by omega
      clear hx hr
      by_cases h10 : r = 10
      · subst h10
        have HS2 : Hid (restT L i T = ⟨0, 0, 0, k, T⟩) := by
          unfold Hid restT; rw [HE.out, rowE_no _ _ _ (by rw [HA.out]; rfl), if_neg]; rw [HA.out]; omega
        obtain ⟨a0, a1, a2, a3, a4, a5⟩ := hF.facts
        go_wp2
        go_quiet ((go_at_call 23; exact Calls.quiet_of (rune_q (HK.out.rd.drewN _) 0 10 HA.out hL (by omega) (by omega))))
        have HK6 := Lib.hid ((HK.out.drewN nq).stored (Nat.le_refl _) hbl hB (HF.out.drewN nq) 0 0 0)
        obtain ⟨e0, e1, e2, _, _, _⟩ := ((HF.out.drewN nq).stored 0 0 0).facts
        clear hF
        go_wp2
        exact bodyPost_ret (v := .agg #[.int .i64 0, .int .i64 0, .int .i64 0]) (by simp [results, Tryd.results25, go_sem, e0, e1, e2]) rfl ⟨by rw [HS2.out]; rfl, ⟨_, by rw [HS2.out]; exact HK6.out⟩⟩
      · have h10' : (r == 10) = false := beq_eq_false_iff_ne.2 h10
        by_cases hb1 : r = -1
        · subst hb1
          have HS2 : Hid (restT L i T = ⟨1, x.line, x.col, k, T⟩) := by
            unfold Hid restT; rw [HE.out, rowE_no _ _ _ (by rw [HA.out]; rfl), if_pos ⟨hlt, by rw [HA.out]⟩, (at_some HX.out).2.2.2.1, (at_some HX.out).2.2.2.2]
          clear hF
          go_wp2
          go_quiet ((go_at_call 23; exact Calls.quiet_of (rune_q (HK.out.rd.drewN _) 0 (-1) HA.out hL (by omega) (by omega))))
          go_wp2_with fail
          refine (rune_q (HK.out.rd.drewN _) 0 (-1) HA.out hL (by omega) (by omega)).mono ?_
          rintro e w' ⟨rfl, m, rfl⟩
          rw [World.drewN_drewN]
          go_wp2_with fail
          refine (fault_any (HK.out.rd.drewN _) 1 x HX.out hL).mono ?_
          rintro e w3 ⟨rfl, hb3⟩
          have HK3 := Lib.hid ((HK.out.drewN _).then hb3 hB)
          have HF3 := Lib.hid ((HF.out.drewN _).below hb3 (HF.out.drewN _).lt)
          clear hb3
          have HK6 := Lib.hid (HK3.out.stored (Nat.le_refl _) hbl hB HF3.out 1 x.line x.col)
          obtain ⟨a0, a1, a2, a3, a4, a5⟩ := HF3.out.facts
          obtain ⟨e0, e1, e2, _, _, _⟩ := (HF3.out.stored 1 x.line x.col).facts
          go_wp2
          exact bodyPost_ret (v := .agg #[.int .i64 1, .int .i64 x.line, .int .i64 x.col]) (by simp [results, Tryd.results25, go_sem, e0, e1, e2]) rfl ⟨by rw [HS2.out]; rfl, ⟨_, by rw [HS2.out]; exact HK6.out⟩⟩
        · have hb1' : (r == -1) = false := beq_eq_false_iff_ne.2 hb1
          have HE2 : Hid (rowE restB L i = rowE restB L (k + 1)) := by
            unfold Hid; rw [HE.out]
            exact rowE_yes _ (by decide) _ _ (by rw [HA.out]; unfold restB; exact decide_eq_true ⟨h10, hb1⟩)
          have hF2 := HF.out
          clear h10 hb1
          go_wp2
          go_quiet ((go_at_call 23; exact Calls.quiet_of (rune_q (HK.out.rd.drewN _) 0 r HA.out hL (by omega) (by omega))))
          go_wp2_with fail
          refine (rune_q (HK.out.rd.drewN _) 0 r HA.out hL (by omega) (by omega)).mono ?_
          rintro e w' ⟨rfl, m, rfl⟩
          rw [World.drewN_drewN]
          have HK7 := Lib.hid ((HK.out.drewN (nq + m)).moved (k + 1))
          have HF7 := Lib.hid ((HF.out.drewN (nq + m)).setOther (g := b) (j := 2) (by omega) (.int .i64 (k + 1 : Nat)))
          go_wp2
          go_roundw
          case rel => exact ⟨k + 1, by omega, HK7.out, HF7.out, HE2⟩
          case measure =>
            have p1 : placeOf ((wr.drewN (nq + m)).setCell ⟨b, 2, none⟩ (.int .i64 ((k : Int) + 1))) b = k + 1 := HK7.out.rd.place
            have p2 : placeOf wr b = k := HK.out.rd.place
            omega
    · have HS2 : Hid (restT L i T = ⟨0, 0, 0, k, T⟩) := by
        unfold Hid restT; rw [HE.out]
        have : rowE restB L k = k := by have := rowE_ge restB L k; omega
        rw [this, if_neg]; omega
      have hz : decide ((k : Int) < (L.length : Int)) = false := decide_eq_false (by omega)
      clear hF
      go_wp2
      go_quiet (fail)
      have HK6 := Lib.hid ((HK.out.drewN nq).stored (Nat.le_refl _) hbl hB (HF.out.drewN nq) 0 0 0)
      obtain ⟨a0, a1, a2, a3, a4, a5⟩ := (HF.out.drewN nq).facts
      obtain ⟨e0, e1, e2, _, _, _⟩ := ((HF.out.drewN nq).stored 0 0 0).facts
      go_wp2
      exact bodyPost_ret (v := .agg #[.int .i64 0, .int .i64 0, .int .i64 0]) (by simp [results, Tryd.results25, go_sem, e0, e1, e2]) rfl ⟨by rw [HS2.out]; rfl, ⟨_, by rw [HS2.out]; exact HK6.out⟩⟩

end Go.Proofs.YthbbbccefjemmaaDoor
