/- bstep: Fire (printed by gen_fi2.py). bstep: Pass (printed by gen_pa.py). -/
import Derived.Test.YtadjnfpomjopkaaGreatSm17

namespace Go.Proofs.YtadjnfpomjopkaaGreat
open Go.RowKit

/-- the boxes of Fire, but the state's -/
def FiB (W1 V : World) (b2 b3 b5 : Nat) (xb : Bool) (xn : Int) (a0 a1 a2 a3 : Value) : Prop := Below W1.heap.size W1 V ∧ (Blk V b3 #[.slice none 0 0, .int .i64 0, .int .i64 0, .slice none 0 0, .slice none 0 0] 44 ∧ Blk V b5 #[a0, a1, a2, a3] 133) ∧ Blk V b2 #[.bool xb, .int .i64 xn] 118 ∧ W1.heap.size < b2 ∧ W1.heap.size < b3 ∧ W1.heap.size < b5
theorem FiB.turn {W1 V W : World} {b2 b3 b5 : Nat} {xb : Bool} {xn : Int} {a0 a1 a2 a3 : Value} {cs : Array Value} {t : TypeId} (h : FiB W1 V b2 b3 b5 xb xn a0 a1 a2 a3) (ht : Turned V W W1.heap.size cs t) : FiB W1 W b2 b3 b5 xb xn a0 a1 a2 a3 :=
  ⟨ht.low h.1 (Nat.le_refl _), ⟨ht.blk h.2.1.1 (by have := h.2.2.2.2.1; omega), ht.blk h.2.1.2 (by have := h.2.2.2.2.2; omega)⟩, ht.blk h.2.2.1 (by have := h.2.2.2.1; omega), h.2.2.2⟩
theorem FiB.grow {W1 V W : World} {b2 b3 b5 : Nat} {xb : Bool} {xn : Int} {a0 a1 a2 a3 : Value} (h : FiB W1 V b2 b3 b5 xb xn a0 a1 a2 a3) (hb : Below V.heap.size V W) : FiB W1 W b2 b3 b5 xb xn a0 a1 a2 a3 :=
  ⟨h.1.trans (hb.mono h.1.size), ⟨h.2.1.1.keep hb, h.2.1.2.keep hb⟩, h.2.2.1.keep hb, h.2.2.2⟩
theorem parL_len (M : Mdl) : (parL M).length = M.stages.length := by simp [parL]
theorem closL_len (M : Mdl) (st : Int) : (closL M st).length = (belowN (parL M) st M.stages.length).length + 1 := by simp [closL]

set_option maxRecDepth 100000 in
set_option maxHeartbeats 8000000 in
theorem fireQ {w : World} {q : Mem} {M : Mdl} {r : Stm} {s : Sta} (hm : MdQ w q M) (x : Bool × Int) (hbd : Bd s) (hl : M.stages.length ≤ 31) :
    Calls Tryz.prog 76 #[.agg (mdC q M), .agg (stC r s), .agg #[.bool x.1, .int .i64 x.2]] w (Ret w (.agg (stC r (fireS M s x)))) := by
  obtain ⟨xb, xn⟩ := x
  dsimp only
  obtain ⟨RC, hRC⟩ : ∃ RC, stC r (fireS M s (xb, xn)) = RC := ⟨_, rfl⟩
  rw [hRC]
  have HRC := Lib.hid hRC
  obtain ⟨W1, h1, HB1, HM, HF⟩ := boxM hm
  obtain ⟨W2, h2, hb2, x2⟩ := box1 W1 (stC r s) 44
  obtain ⟨W3, h3, hb3, x3⟩ := box1 W2 #[.bool xb, .int .i64 xn] 118
  obtain ⟨W4, h4, hb4, x4⟩ := box1 W3 #[.slice none 0 0, .int .i64 0, .int .i64 0, .slice none 0 0, .slice none 0 0] 44
  have hs2 : W2.heap.size = W1.heap.size + 1 := by rw [← h2]; simp
  have hs3 : W3.heap.size = W2.heap.size + 1 := by rw [← h3]; simp
  have hs4 : W4.heap.size = W3.heap.size + 1 := by rw [← h4]; simp
  have hb24 := hb3.trans (hb4.mono hb3.size)
  have hb14 := hb2.trans (hb24.mono hb2.size)
  have HB14 := Lib.hid hb14
  have HX := Lib.hid (And.intro (x2.keep hb24) (And.intro (x3.keep hb4) x4))
  have HSZ := Lib.hid (And.intro hs2 (And.intro hs3 hs4))
  have HFI := Lib.hid (findQ (HM.out.below hb14) (xb, xn))
  have HPA : Hid (∀ V, Below W1.heap.size W1 V → Calls Tryz.prog 89 #[.agg (mdC q M)] V fun e w' => ∃ v', e = .returned v' ∧ w'.ownsRow V.heap.size 3 1 v' (parL M).length (ints (parL M)) ∧ Below V.heap.size V w') := fun V hV => parentsQ (HM.out.below hV) (by omega)
  have HMQ : Hid (∀ V, Below W1.heap.size W1 V → MdQ V q M) := fun V hV => HM.out.below hV
  have HLL := Lib.hid hl
  have HBD := Lib.hid hbd
  unfold mdC at h1 HFI HPA
  unfold stC at h2 HX HRC
  unfold mdC stC
  dsimp only at HFI
  have HF0 := HF
  unfold MdB at HF
  clear hm hb2 hb3 hb4 x2 x3 x4 hs2 hs3 hs4 hb24 hb14 hRC hl hbd
  obtain ⟨c0, c1, c2, c3, c4, c5, c6, c7, c8, c9⟩ := HF.out _ HB14.out
  have y0 := HX.out.2.1.cell (i := 0) rfl
  have y1 := HX.out.2.1.cell (i := 1) rfl
  go_enter Tryz.func76, Tryz.ntmps76
  go_wp2_with fail
  refine HFI.out.mono ?_
  rintro e0 W5 ⟨⟨v, rfl, hv⟩, hb5⟩
  clear c0 c1 c2 c3 c4 c5 c6 c7 c8 c9 y0 y1
  unfold FindR at hv
  cases hfs : findS M (xb, xn) with
  | none =>
    rw [hfs] at hv
    subst hv
    have HE : Hid (RC = #[.slice r.a0 s.vals.length r.k0, .int .i64 s.opn, .int .i64 s.dne, .slice r.a3 s.did.length r.k3, .slice r.a4 s.cnt.length r.k4]) := by unfold Hid; rw [← HRC.out]; unfold fireS; rw [hfs]
    obtain ⟨W6, h6, hb6, x6⟩ := box1 W5 #[.int .i64 0, .int .i64 0, .slice none 0 0, .int .i64 0] 133
    have hb46 := hb5.trans (hb6.mono hb5.size)
    have HZ : Hid (FiB W1 W6 W2.heap.size W3.heap.size W5.heap.size xb xn (.int .i64 0) (.int .i64 0) (.slice none 0 0) (.int .i64 0)) := ⟨HB14.out.trans (hb46.mono HB14.out.size), ⟨HX.out.2.2.keep hb46, x6⟩, HX.out.2.1.keep hb46, by have := HSZ.out; omega, by have := HSZ.out; omega, by have := HSZ.out; have := hb5.size; omega⟩
    have HS := Lib.hid (HX.out.1.keep hb46)
    have HOW := Lib.hid h6
    clear hb5 hb6 hb46 hfs x6 h6
    go_upto_region 2 with fail
    rw [HOW.out]
    have m0 := HS.out.cell (i := 0) rfl
    have u0 := HZ.out.2.1.1.cell (i := 0) rfl
    have t0 := HZ.out.2.1.1.free 0
    have m1 := HS.out.cell (i := 1) rfl
    have u1 := HZ.out.2.1.1.cell (i := 1) rfl
    have t1 := HZ.out.2.1.1.free 1
    have m2 := HS.out.cell (i := 2) rfl
    have u2 := HZ.out.2.1.1.cell (i := 2) rfl
    have t2 := HZ.out.2.1.1.free 2
    have m3 := HS.out.cell (i := 3) rfl
    have u3 := HZ.out.2.1.1.cell (i := 3) rfl
    have t3 := HZ.out.2.1.1.free 3
    have m4 := HS.out.cell (i := 4) rfl
    have u4 := HZ.out.2.1.1.cell (i := 4) rfl
    have t4 := HZ.out.2.1.1.free 4
    go_wp2
    have hp := HZ.out.2.1.1.put5 (.slice r.a0 s.vals.length r.k0) (.int .i64 s.opn) (.int .i64 s.dne) (.slice r.a3 s.did.length r.k3) (.slice r.a4 s.cnt.length r.k4)
    refine bodyPost_ret (v := .agg #[.slice r.a0 s.vals.length r.k0, .int .i64 s.opn, .int .i64 s.dne, .slice r.a3 s.did.length r.k3, .slice r.a4 s.cnt.length r.k4]) (st_results hp rfl Tryz.f76 rfl) rfl ?_
    rw [HE.out]
    exact ⟨rfl, below_put5 (HB1.out.trans (HZ.out.1.mono HB1.out.size)) (by have := HZ.out.2.2.2.2.1; have := HB1.out.size; omega) _ _ _ _ _⟩
  | some fr =>
    obtain ⟨st, ev', c⟩ := fr
    rw [hfs] at hv
    obtain ⟨ai, ki, hrw, hvv⟩ := hv
    subst hvv
    dsimp only
    obtain ⟨mi, hmi⟩ : ∃ mi : Int, (if xb = true then xn else -1) = mi := ⟨_, rfl⟩
    rw [hmi]
    have HFS := Lib.hid hfs
    have HMI := Lib.hid hmi
    obtain ⟨W6, h6, hb6, x6⟩ := box1 W5 #[.int .i64 st, .int .i64 ev', .slice ai c.length ki, .int .i64 mi] 133
    have hb46 := hb5.trans (hb6.mono hb5.size)
    have HZ : Hid (FiB W1 W6 W2.heap.size W3.heap.size W5.heap.size xb xn (.int .i64 st) (.int .i64 ev') (.slice ai c.length ki) (.int .i64 mi)) := ⟨HB14.out.trans (hb46.mono HB14.out.size), ⟨HX.out.2.2.keep hb46, x6⟩, HX.out.2.1.keep hb46, by have := HSZ.out; omega, by have := HSZ.out; omega, by have := HSZ.out; have := hb5.size; omega⟩
    have HS := Lib.hid (HX.out.1.keep hb46)
    clear hb5 hb6 hb46 hfs x6 hrw hmi
    cases hin : inM st M.stages.length
    · have HE : Hid (RC = #[.slice r.a0 s.vals.length r.k0, .int .i64 s.opn, .int .i64 s.dne, .slice r.a3 s.did.length r.k3, .slice r.a4 s.cnt.length r.k4]) := by unfold Hid; rw [← HRC.out]; unfold fireS; rw [HFS.out]; dsimp only; rw [hin]; rfl
      clear hin
      have m0 := HS.out.cell (i := 0) rfl
      have u0 := HZ.out.2.1.1.cell (i := 0) rfl
      have t0 := HZ.out.2.1.1.free 0
      have m1 := HS.out.cell (i := 1) rfl
      have u1 := HZ.out.2.1.1.cell (i := 1) rfl
      have t1 := HZ.out.2.1.1.free 1
      have m2 := HS.out.cell (i := 2) rfl
      have u2 := HZ.out.2.1.1.cell (i := 2) rfl
      have t2 := HZ.out.2.1.1.free 2
      have m3 := HS.out.cell (i := 3) rfl
      have u3 := HZ.out.2.1.1.cell (i := 3) rfl
      have t3 := HZ.out.2.1.1.free 3
      have m4 := HS.out.cell (i := 4) rfl
      have u4 := HZ.out.2.1.1.cell (i := 4) rfl
      have t4 := HZ.out.2.1.1.free 4
      go_wp2
      have hp := HZ.out.2.1.1.put5 (.slice r.a0 s.vals.length r.k0) (.int .i64 s.opn) (.int .i64 s.dne) (.slice r.a3 s.did.length r.k3) (.slice r.a4 s.cnt.length r.k4)
      refine bodyPost_ret (v := .agg #[.slice r.a0 s.vals.length r.k0, .int .i64 s.opn, .int .i64 s.dne, .slice r.a3 s.did.length r.k3, .slice r.a4 s.cnt.length r.k4]) (st_results hp rfl Tryz.f76 rfl) rfl ?_
      rw [HE.out]
      exact ⟨rfl, below_put5 (HB1.out.trans (HZ.out.1.mono HB1.out.size)) (by have := HZ.out.2.2.2.2.1; have := HB1.out.size; omega) _ _ _ _ _⟩
    · have HIN := Lib.hid hin
      obtain ⟨k, rfl, hk⟩ := inM_nat hin
      have HK := Lib.hid hk
      clear hin hk
      have b0 := HZ.out.2.2.1.cell (i := 0) rfl
      have n0 := HZ.out.2.1.2.cell (i := 0) rfl
      have n3 := HZ.out.2.1.2.cell (i := 3) rfl
      have m1 := HS.out.cell (i := 1) rfl
      have m2 := HS.out.cell (i := 2) rfl
      have f1 := HS.out.free 1
      have f2 := HS.out.free 2
      cases xb
      · obtain ⟨W7, h7⟩ : ∃ W, W6.setCell ⟨W1.heap.size, 1, none⟩ (.int .i64 (putZ s.opn (k : Int) true)) = W := ⟨_, rfl⟩
        have HT7 : Hid (Turned W6 W7 W1.heap.size #[.slice r.a0 s.vals.length r.k0, .int .i64 (putZ s.opn (k : Int) true), .int .i64 s.dne, .slice r.a3 s.did.length r.k3, .slice r.a4 s.cnt.length r.k4] 44) := by rw [← h7]; exact (Turned.refl HS.out).store 1 _
        have HZ7 := Lib.hid (HZ.out.turn HT7.out)
        obtain ⟨-, -, -, -, -, -, -, c7, -, -⟩ := HF.out _ HZ7.out.1
        have hmm := (HM.out).miles.max
        clear HZ HS
        go_wp2_with (first | (go_at_call 83; refine (with_any _ _ _).mono ?_; rintro o w4 ⟨rfl, rfl⟩) | fail)
        clear b0 n0 n3 m1 m2 f1 f2 c7
        go_loopw [11, 12, 60] (fun _ _ i wr => ∃ j : Nat, i = .int .i64 (j : Int) ∧ j ≤ M.miles.length ∧ Hid (Turned W7 wr W1.heap.size #[.slice r.a0 s.vals.length r.k0, .int .i64 (putZ s.opn (k : Int) true), .int .i64 (undoN M s.dne (k : Int) j), .slice r.a3 s.did.length r.k3, .slice r.a4 s.cnt.length r.k4] 44)) (fun _ _ i _ => M.miles.length - (intOf i).toNat)
        case atStart => exact ⟨0, rfl, Nat.zero_le _, by rw [undoN_zero M _ HBD.out]; exact Turned.refl HT7.out.1⟩
        case round =>
          obtain ⟨j, rfl, hj, HT⟩ := hrel
          have HZ := Lib.hid (HZ7.out.turn HT.out)
          rcases Nat.lt_or_ge j M.miles.length with hlt | hge
          · have hkz := ltI hlt
            obtain ⟨x, b, off, ai2, ki2, hx, ha, -, ⟨a0, a1, a2, a3, a4⟩, W8, h8, hb8, x8⟩ := mileBox (HMQ.out _ HZ.out.1).miles hlt
            have g1 := x8.cell (i := 1) rfl
            have HT8 := Lib.hid (HT.out.grow hb8)
            have HZ8 := Lib.hid (HZ.out.grow hb8)
            have n0 := HZ8.out.2.1.2.cell (i := 0) rfl
            have hst : (mlG M j).stage = x.stage := by rw [mlG_of hx]
            clear hx x8 hb8
            by_cases p : x.stage = (k : Int)
            · have HU : Hid (undoN M s.dne (k : Int) (j + 1) = putZ (undoN M s.dne (k : Int) j) (j : Int) false) := undoN_hit _ (hst.trans p)
              have hb : (x.stage == (k : Int)) = true := by simp [p]
              have d2 := HT8.out.1.cell (i := 2) rfl
              have f2 := HT8.out.1.free 2
              clear p hst
              go_wp2_with (first | (go_at_call 90; refine (without_any _ _ _).mono ?_; rintro o w4 ⟨rfl, rfl⟩) | fail)
              (try rw [← ha])
              go_roundw
              case rel => exact ⟨j + 1, by go_num, hlt, by rw [HU.out]; exact HT8.out.store 2 _⟩
              case measure => simp [intOf]; omega
            · have HU : Hid (undoN M s.dne (k : Int) (j + 1) = undoN M s.dne (k : Int) j) := undoN_miss _ (by rw [hst]; exact p)
              have hb : (x.stage == (k : Int)) = false := by rw [beq_eq_false_iff_ne]; exact p
              clear p hst
              go_wp2
              (try rw [← ha])
              go_roundw
              case rel => exact ⟨j + 1, by go_num, hlt, by rw [HU.out]; exact HT8.out⟩
              case measure => simp [intOf]; omega
          · have hkn : j = M.miles.length := by omega
            subst hkn
            have hge' := nltI (Nat.not_lt.2 hge)
            have HS := Lib.hid HT.out.1
            have HE : Hid (RC = #[.slice r.a0 s.vals.length r.k0, .int .i64 (putZ s.opn (k : Int) true), .int .i64 (undoN M s.dne (k : Int) M.miles.length), .slice r.a3 s.did.length r.k3, .slice r.a4 s.cnt.length r.k4]) := by unfold Hid; rw [← HRC.out]; unfold fireS; rw [HFS.out]; dsimp only; rw [if_pos HIN.out, if_neg (by simp)]; rfl
            have m0 := HS.out.cell (i := 0) rfl
            have u0 := HZ.out.2.1.1.cell (i := 0) rfl
            have t0 := HZ.out.2.1.1.free 0
            have m1 := HS.out.cell (i := 1) rfl
            have u1 := HZ.out.2.1.1.cell (i := 1) rfl
            have t1 := HZ.out.2.1.1.free 1
            have m2 := HS.out.cell (i := 2) rfl
            have u2 := HZ.out.2.1.1.cell (i := 2) rfl
            have t2 := HZ.out.2.1.1.free 2
            have m3 := HS.out.cell (i := 3) rfl
            have u3 := HZ.out.2.1.1.cell (i := 3) rfl
            have t3 := HZ.out.2.1.1.free 3
            have m4 := HS.out.cell (i := 4) rfl
            have u4 := HZ.out.2.1.1.cell (i := 4) rfl
            have t4 := HZ.out.2.1.1.free 4
            go_wp2
            have hp := HZ.out.2.1.1.put5 (.slice r.a0 s.vals.length r.k0) (.int .i64 (putZ s.opn (k : Int) true)) (.int .i64 (undoN M s.dne (k : Int) M.miles.length)) (.slice r.a3 s.did.length r.k3) (.slice r.a4 s.cnt.length r.k4)
            refine bodyPost_ret (v := .agg #[.slice r.a0 s.vals.length r.k0, .int .i64 (putZ s.opn (k : Int) true), .int .i64 (undoN M s.dne (k : Int) M.miles.length), .slice r.a3 s.did.length r.k3, .slice r.a4 s.cnt.length r.k4]) (st_results hp rfl Tryz.f76 rfl) rfl ?_
            rw [HE.out]
            exact ⟨rfl, below_put5 (HB1.out.trans (HZ.out.1.mono HB1.out.size)) (by have := HZ.out.2.2.2.2.1; have := HB1.out.size; omega) _ _ _ _ _⟩
      · have HMX : Hid (mi = xn) := by have := HMI.out; rw [if_pos rfl] at this; exact this.symm
        obtain ⟨W7, h7⟩ : ∃ W, W6.setCell ⟨W1.heap.size, 2, none⟩ (.int .i64 (putZ s.dne mi true)) = W := ⟨_, rfl⟩
        have HT7 : Hid (Turned W6 W7 W1.heap.size #[.slice r.a0 s.vals.length r.k0, .int .i64 s.opn, .int .i64 (putZ s.dne mi true), .slice r.a3 s.did.length r.k3, .slice r.a4 s.cnt.length r.k4] 44) := by rw [← h7]; exact (Turned.refl HS.out).store 2 _
        have HZ7 := Lib.hid (HZ.out.turn HT7.out)
        have HS6 : Hid (∀ V, Below W7.heap.size W7 V → MdB V w.heap.size q M ∧ V.cell? ⟨W5.heap.size, 0, none⟩ = some (.int .i64 (k : Int))) := fun V hV => ⟨HF0.out V (HZ7.out.1.trans (hV.mono HZ7.out.1.size)), (HZ7.out.grow hV).2.1.2.cell rfl⟩
        obtain ⟨N, hN⟩ : ∃ N, (closL M (k : Int)).length = N := ⟨_, rfl⟩
        have hN31 : N ≤ 32 := by rw [← hN, closL_len]; have := belowN_len (parL M) (k : Int) M.stages.length; have := HLL.out; omega
        have HN := Lib.hid hN
        have HBN : Hid ((belowN (parL M) (k : Int) M.stages.length).length + 1 = N) := by unfold Hid; rw [← hN, closL_len]
        clear HZ HS hN
        go_upto_region 6 with (first | (go_at_call 83; refine (with_any _ _ _).mono ?_; rintro o w4 ⟨rfl, rfl⟩) | fail)
        clear b0 n0 n3 m1 m2 f1 f2
        go_cut [38, 39, 40] from 30 to 40 (fun v38 v39 v40 wx => ∃ ad cp, v38 = .slice ad N cp ∧ v39 = .int .i64 (N : Int) ∧ v40 = .int .i64 0 ∧ Hid (wx.ownsRow W7.heap.size 3 1 (.slice ad N cp) N (ints (closL M (k : Int))) ∧ Below W7.heap.size W7 wx))
        case first =>
          have hbz : Below W7.heap.size W7 W7.drew := (Below.refl _ _).drew
          refine startH (S := fun V => MdB V w.heap.size q M ∧ V.cell? ⟨W5.heap.size, 0, none⟩ = some (.int .i64 (k : Int))) (by kernel_rfl) (HS6.out _ hbz) (fun hHeld => ?_)
          refine takesH [0, 2, 3, 5, 6, 10] (by kernel_rfl) (fun _ _ d _ _ h => by cases d <;> exact h) (by kernel_rfl) (by kernel_rfl) (by assumption) ?_
          repeat (first
            | (refine TakeSeq.cons (v := ?_) rfl (by rfl) ?_ ?_
               rotate_left
               · ((intro w hSw; unfold MdB at hSw; go_simp) <;> (try with_reducible rfl))
               (try go_simp))
            | (refine TakeSeq.skip rfl (by rfl) ?_; (try go_simp)))
          refine TakeSeq.nil ?_
          refine callH2 1 7 (by kernel_rfl) (by kernel_rfl) rfl (by rfl) rfl (by rfl) ?_ ?_
          · intro K hK
            go_simp
            go_at_call 89
            have HBV := HZ7.out.1.trans (hbz.mono HZ7.out.1.size)
            with_reducible refine (HPA.out _ HBV).mono ?_
            rintro e8 W8 ⟨v8, rfl, hor, hb8⟩
            obtain ⟨ad8, cp8, e8⟩ := owns_len hor
            subst e8
            have hbz := hbz.trans (hb8.mono hbz.size)
            refine hK.out _ _ (HS6.out _ hbz) (fun hHeld => ?_)
            clear hK K
            (try go_simp)
            refine callH2 4 7 (by kernel_rfl) (by kernel_rfl) rfl (by rfl) rfl (by rfl) ?_ ?_
            · intro K hK
              go_simp
              go_at_call 88
              with_reducible refine (below_any (rowI_of hor) (by rw [parL_len]; have := HLL.out; omega) k (by rw [parL_len]; exact HK.out)).mono ?_
              rintro e9 W9 ⟨v9, rfl, ho9, hb9⟩
              rw [parL_len] at ho9
              obtain ⟨ad9, cp9, e9⟩ := owns_len ho9
              subst e9
              replace ho9 := owns_mono ho9 hbz.size
              have hbz := hbz.trans (hb9.mono hbz.size)
              refine hK.out _ _ (HS6.out _ hbz) (fun hHeld => ?_)
              clear hK K
              (try go_simp)
              refine callH 7 (by kernel_rfl) (by kernel_rfl) rfl (by rfl) ?_
              intro K hK
              go_simp
              have hbz : Below W7.heap.size W7 (W9.alloc (.cells #[.int .i64 (k : Int)] 3)) := hbz.alloc hbz.size (.cells #[.int .i64 (k : Int)] 3)
              have hbk : Blk (W9.alloc (.cells #[.int .i64 (k : Int)] 3)) W9.heap.size #[.int .i64 (k : Int)] 3 := Blk.new _ _ _
              replace ho9 := ho9.alloc (.cells #[.int .i64 (k : Int)] 3)
              refine hK.out _ _ (HS6.out _ hbz) (fun hHeld => ?_)
              clear hK K
              (try go_simp)
              refine callH 8 (by kernel_rfl) (by kernel_rfl) rfl (by rfl) ?_
              intro K hK
              refine appI _ _ rfl W7.heap.size (.slice ad9 _ cp9) _ _ rfl ho9 W9.heap.size (k : Int) rfl (hbk.cell rfl) (by have := HBN.out; omega) hbz.size (fun v' w' hown hbel => ?_)
              have hbz := hbz.trans hbel
              obtain ⟨ad, cp, e⟩ := owns_len hown
              subst e
              rw [HBN.out] at hown
              refine hK.out _ _ (HS6.out _ hbz) (fun hHeld => ?_)
              clear hK K
              (try go_simp)
              refine takesH [9] (by kernel_rfl) (fun _ _ d _ _ h => by cases d <;> exact h) (by kernel_rfl) (by kernel_rfl) (by assumption) ?_
              repeat (first
                | (refine TakeSeq.cons (v := ?_) rfl (by rfl) ?_ ?_
                   rotate_left
                   · ((intro w hSw; unfold MdB at hSw; go_simp) <;> (try with_reducible rfl))
                   (try go_simp))
                | (refine TakeSeq.skip rfl (by rfl) ?_; (try go_simp)))
              refine TakeSeq.nil ?_
              refine doneH (by kernel_rfl) ?_
              go_wp2_with fail
              go_meet
              exact ⟨_, _, by rw [HBN.out], int_eq (by have := HBN.out; omega), rfl, by rw [show ints (closL M (k : Int)) = ints (belowN (parL M) (k : Int) M.stages.length) ++ [.int .i64 (k : Int)] by simp [ints, closL]]; exact hown, hbz⟩
            · intro K hK
              go_simp
              have hbz : Below W7.heap.size W7 (W8.alloc (.cells #[.int .i64 (k : Int)] 3)) := hbz.alloc hbz.size (.cells #[.int .i64 (k : Int)] 3)
              have hbk : Blk (W8.alloc (.cells #[.int .i64 (k : Int)] 3)) W8.heap.size #[.int .i64 (k : Int)] 3 := Blk.new _ _ _
              replace hor := hor.alloc (.cells #[.int .i64 (k : Int)] 3)
              refine hK.out _ _ (HS6.out _ hbz) (fun hHeld => ?_)
              clear hK K
              (try go_simp)
              refine callH 4 (by kernel_rfl) (by kernel_rfl) rfl (by rfl) ?_
              intro K hK
              go_simp
              go_at_call 88
              with_reducible refine (below_any (rowI_of hor) (by rw [parL_len]; have := HLL.out; omega) k (by rw [parL_len]; exact HK.out)).mono ?_
              rintro e9 W9 ⟨v9, rfl, ho9, hb9⟩
              rw [parL_len] at ho9
              obtain ⟨ad9, cp9, e9⟩ := owns_len ho9
              subst e9
              replace ho9 := owns_mono ho9 hbz.size
              have hbz := hbz.trans (hb9.mono hbz.size)
              replace hbk := hbk.keep hb9
              refine hK.out _ _ (HS6.out _ hbz) (fun hHeld => ?_)
              clear hK K
              (try go_simp)
              refine callH 8 (by kernel_rfl) (by kernel_rfl) rfl (by rfl) ?_
              intro K hK
              refine appI _ _ rfl W7.heap.size (.slice ad9 _ cp9) _ _ rfl ho9 W8.heap.size (k : Int) rfl (hbk.cell rfl) (by have := HBN.out; omega) hbz.size (fun v' w' hown hbel => ?_)
              have hbz := hbz.trans hbel
              obtain ⟨ad, cp, e⟩ := owns_len hown
              subst e
              rw [HBN.out] at hown
              refine hK.out _ _ (HS6.out _ hbz) (fun hHeld => ?_)
              clear hK K
              (try go_simp)
              refine takesH [9] (by kernel_rfl) (fun _ _ d _ _ h => by cases d <;> exact h) (by kernel_rfl) (by kernel_rfl) (by assumption) ?_
              repeat (first
                | (refine TakeSeq.cons (v := ?_) rfl (by rfl) ?_ ?_
                   rotate_left
                   · ((intro w hSw; unfold MdB at hSw; go_simp) <;> (try with_reducible rfl))
                   (try go_simp))
                | (refine TakeSeq.skip rfl (by rfl) ?_; (try go_simp)))
              refine TakeSeq.nil ?_
              refine doneH (by kernel_rfl) ?_
              go_wp2_with fail
              go_meet
              exact ⟨_, _, by rw [HBN.out], int_eq (by have := HBN.out; omega), rfl, by rw [show ints (closL M (k : Int)) = ints (belowN (parL M) (k : Int) M.stages.length) ++ [.int .i64 (k : Int)] by simp [ints, closL]]; exact hown, hbz⟩
          · intro K hK
            go_simp
            have hbz : Below W7.heap.size W7 ((W7.alloc (.cells #[.int .i64 (k : Int)] 3)).drew) := hbz.alloc hbz.size (.cells #[.int .i64 (k : Int)] 3)
            have hbk : Blk ((W7.alloc (.cells #[.int .i64 (k : Int)] 3)).drew) W7.heap.size #[.int .i64 (k : Int)] 3 := Blk.new _ _ _
            refine hK.out _ _ (HS6.out _ hbz) (fun hHeld => ?_)
            clear hK K
            (try go_simp)
            refine callH 1 (by kernel_rfl) (by kernel_rfl) rfl (by rfl) ?_
            intro K hK
            go_simp
            go_at_call 89
            have HBV := HZ7.out.1.trans (hbz.mono HZ7.out.1.size)
            with_reducible refine (HPA.out _ HBV).mono ?_
            rintro e8 W8 ⟨v8, rfl, hor, hb8⟩
            obtain ⟨ad8, cp8, e8⟩ := owns_len hor
            subst e8
            have hbz := hbz.trans (hb8.mono hbz.size)
            replace hbk := hbk.keep hb8
            refine hK.out _ _ (HS6.out _ hbz) (fun hHeld => ?_)
            clear hK K
            (try go_simp)
            refine callH 4 (by kernel_rfl) (by kernel_rfl) rfl (by rfl) ?_
            intro K hK
            go_simp
            go_at_call 88
            with_reducible refine (below_any (rowI_of hor) (by rw [parL_len]; have := HLL.out; omega) k (by rw [parL_len]; exact HK.out)).mono ?_
            rintro e9 W9 ⟨v9, rfl, ho9, hb9⟩
            rw [parL_len] at ho9
            obtain ⟨ad9, cp9, e9⟩ := owns_len ho9
            subst e9
            replace ho9 := owns_mono ho9 hbz.size
            have hbz := hbz.trans (hb9.mono hbz.size)
            replace hbk := hbk.keep hb9
            refine hK.out _ _ (HS6.out _ hbz) (fun hHeld => ?_)
            clear hK K
            (try go_simp)
            refine callH 8 (by kernel_rfl) (by kernel_rfl) rfl (by rfl) ?_
            intro K hK
            refine appI _ _ rfl W7.heap.size (.slice ad9 _ cp9) _ _ rfl ho9 W7.heap.size (k : Int) rfl (hbk.cell rfl) (by have := HBN.out; omega) hbz.size (fun v' w' hown hbel => ?_)
            have hbz := hbz.trans hbel
            obtain ⟨ad, cp, e⟩ := owns_len hown
            subst e
            rw [HBN.out] at hown
            refine hK.out _ _ (HS6.out _ hbz) (fun hHeld => ?_)
            clear hK K
            (try go_simp)
            refine takesH [9] (by kernel_rfl) (fun _ _ d _ _ h => by cases d <;> exact h) (by kernel_rfl) (by kernel_rfl) (by assumption) ?_
            repeat (first
              | (refine TakeSeq.cons (v := ?_) rfl (by rfl) ?_ ?_
                 rotate_left
                 · ((intro w hSw; unfold MdB at hSw; go_simp) <;> (try with_reducible rfl))
                 (try go_simp))
              | (refine TakeSeq.skip rfl (by rfl) ?_; (try go_simp)))
            refine TakeSeq.nil ?_
            refine doneH (by kernel_rfl) ?_
            go_wp2_with fail
            go_meet
            exact ⟨_, _, by rw [HBN.out], int_eq (by have := HBN.out; omega), rfl, by rw [show ints (closL M (k : Int)) = ints (belowN (parL M) (k : Int) M.stages.length) ++ [.int .i64 (k : Int)] by simp [ints, closL]]; exact hown, hbz⟩
        case rest =>
          obtain ⟨ad, cp, rfl, rfl, rfl, HL⟩ := hcut
          obtain ⟨g, cp', ev, hg0, hg1⟩ := owns_shape HL.out.1 (by have := HBN.out; omega)
          simp only [Value.slice.injEq] at ev
          obtain ⟨rfl, -, rfl⟩ := ev
          have HG : Hid (W1.heap.size < g ∧ g < wc.heap.size) := ⟨by have := HZ7.out.1.size; have := HT7.out.1.lt; omega, hg1⟩
          have HZC := Lib.hid (HZ7.out.grow HL.out.2)
          have HTC := Lib.hid (HT7.out.1.keep HL.out.2)
          clear hg0 hg1
          go_wp2_with fail
          go_loopw [10, 40] (fun _ i wr => ∃ j : Nat, i = .int .i64 (j : Int) ∧ j ≤ N ∧ Hid (Turned wc wr W1.heap.size #[.slice r.a0 s.vals.length r.k0, .int .i64 (closN M s.opn (k : Int) j), .int .i64 (putZ s.dne mi true), .slice r.a3 s.did.length r.k3, .slice r.a4 s.cnt.length r.k4] 44)) (fun _ i _ => N - (intOf i).toNat)
          case atStart => exact ⟨0, rfl, Nat.zero_le _, Turned.refl HTC.out⟩
          case round =>
            obtain ⟨j, rfl, hj, HT⟩ := hrel
            have HZ := Lib.hid (HZC.out.turn HT.out)
            rcases Nat.lt_or_ge j N with hlt | hge
            · have hkz := ltI hlt
              obtain ⟨y, hy⟩ : ∃ y, (closL M (k : Int))[j]? = some y := ⟨_, List.getElem?_eq_getElem (by have := HN.out; omega)⟩
              have c0 : wr.cell? ⟨g, j, none⟩ = some (.int .i64 y) := by
                rw [HT.out.cell (by have := HG.out.1; omega) HG.out.2, HL.out.1.cellAt j (by omega)]
                unfold ints; rw [List.getElem?_map, hy]; rfl
              have HU : Hid (closN M s.opn (k : Int) (j + 1) = putZ (closN M s.opn (k : Int) j) y false) := closN_succ hy
              have m1 := HT.out.1.cell (i := 1) rfl
              have f1 := HT.out.1.free 1
              clear hy
              go_wp2_with (first | (go_at_call 90; refine (without_any _ _ _).mono ?_; rintro o w4 ⟨rfl, rfl⟩) | fail)
              go_roundw
              case rel => exact ⟨j + 1, by go_num, hlt, by rw [HU.out]; exact HT.out.store 1 _⟩
              case measure => simp [intOf]; omega
            · have hkn : j = N := by omega
              subst hkn
              have hge' := nltI (Nat.not_lt.2 hge)
              have HS := Lib.hid HT.out.1
              have HE : Hid (RC = #[.slice r.a0 s.vals.length r.k0, .int .i64 (closN M s.opn (k : Int) j), .int .i64 (putZ s.dne mi true), .slice r.a3 s.did.length r.k3, .slice r.a4 s.cnt.length r.k4]) := by
                unfold Hid; rw [← HRC.out]; unfold fireS; rw [HFS.out]; dsimp only; rw [if_pos HIN.out, if_pos rfl]
                have e := closN_all (M := M) s.opn (st := k) HLL.out HK.out
                rw [HN.out] at e
                rw [e, HMX.out]
              have m0 := HS.out.cell (i := 0) rfl
              have u0 := HZ.out.2.1.1.cell (i := 0) rfl
              have t0 := HZ.out.2.1.1.free 0
              have m1 := HS.out.cell (i := 1) rfl
              have u1 := HZ.out.2.1.1.cell (i := 1) rfl
              have t1 := HZ.out.2.1.1.free 1
              have m2 := HS.out.cell (i := 2) rfl
              have u2 := HZ.out.2.1.1.cell (i := 2) rfl
              have t2 := HZ.out.2.1.1.free 2
              have m3 := HS.out.cell (i := 3) rfl
              have u3 := HZ.out.2.1.1.cell (i := 3) rfl
              have t3 := HZ.out.2.1.1.free 3
              have m4 := HS.out.cell (i := 4) rfl
              have u4 := HZ.out.2.1.1.cell (i := 4) rfl
              have t4 := HZ.out.2.1.1.free 4
              go_wp2
              have hp := HZ.out.2.1.1.put5 (.slice r.a0 s.vals.length r.k0) (.int .i64 (closN M s.opn (k : Int) j)) (.int .i64 (putZ s.dne mi true)) (.slice r.a3 s.did.length r.k3) (.slice r.a4 s.cnt.length r.k4)
              refine bodyPost_ret (v := .agg #[.slice r.a0 s.vals.length r.k0, .int .i64 (closN M s.opn (k : Int) j), .int .i64 (putZ s.dne mi true), .slice r.a3 s.did.length r.k3, .slice r.a4 s.cnt.length r.k4]) (st_results hp rfl Tryz.f76 rfl) rfl ?_
              rw [HE.out]
              exact ⟨rfl, below_put5 (HB1.out.trans (HZ.out.1.mono HB1.out.size)) (by have := HZ.out.2.2.2.2.1; have := HB1.out.size; omega) _ _ _ _ _⟩
end Go.Proofs.YtadjnfpomjopkaaGreat

namespace Go.Proofs.YtadjnfpomjopkaaGreat
open Go.RowKit

theorem Turned.put5 {V W : World} {b : Nat} {x0 x1 x2 x3 x4 : Value} {t : TypeId} (h : Turned V W b #[x0, x1, x2, x3, x4] t) (a0 a1 a2 a3 a4 : Value) : Turned V (((((W.setCell ⟨b, 0, none⟩ a0).setCell ⟨b, 1, none⟩ a1).setCell ⟨b, 2, none⟩ a2).setCell ⟨b, 3, none⟩ a3).setCell ⟨b, 4, none⟩ a4) b #[a0, a1, a2, a3, a4] t := ((((h.store 0 a0).store 1 a1).store 2 a2).store 3 a3).store 4 a4
theorem StQ.fire {w : World} {r : Stm} {s : Sta} (M : Mdl) (x : Bool × Int) (h : StQ w r s) : StQ w r (fireS M s x) := by
  obtain ⟨e0, e3, e4⟩ := fireS_len M s x
  unfold StQ at *
  rw [e0, e3, e4]
  exact ⟨by rw [e0]; exact h.vals, by rw [e3]; exact h.did, by rw [e4]; exact h.cnt⟩

set_option maxRecDepth 100000 in
set_option maxHeartbeats 4000000 in
theorem passQ {w : World} {q : Mem} {M : Mdl} {r : Stm} {s : Sta} (hm : MdQ w q M) (hs : StQ w r s) (ev : Int) (hbd : Bd s) (hl : M.stages.length ≤ 31) (hc : ∀ x ∈ M.order, (condS M x).length ≤ 10000) :
    Calls Tryz.prog 64 #[.agg (mdC q M), .agg (stC r s), .int .i64 ev] w (Ret w (.agg (stC r (pasS M ev s)))) := by
  obtain ⟨RC, hRC⟩ : ∃ RC, stC r (pasS M ev s) = RC := ⟨_, rfl⟩
  rw [hRC]
  have HRC := Lib.hid hRC
  have HSW := Lib.hid hs
  obtain ⟨W1, h1, HB1, HM, HF⟩ := boxM hm
  obtain ⟨W2, h2, hb2, x2⟩ := box1 W1 (stC r s) 44
  obtain ⟨W3, h3, hb3, x3⟩ := box1 W2 #[.slice none 0 0, .int .i64 0, .int .i64 0, .slice none 0 0, .slice none 0 0] 44
  have hs2 : W2.heap.size = W1.heap.size + 1 := by rw [← h2]; simp
  have hb13 := hb2.trans (hb3.mono hb2.size)
  have HB13 := Lib.hid hb13
  have HX := Lib.hid (And.intro (x2.keep hb3) x3)
  have HSZ := Lib.hid hs2
  have HMQ : Hid (∀ V, Below W1.heap.size W1 V → MdQ V q M) := fun V hV => HM.out.below hV
  have hmo := HM.out.order.max
  have HLL := Lib.hid hl
  have HBD := Lib.hid hbd
  have HC := Lib.hid hc
  unfold mdC at h1
  unfold stC at h2
  unfold mdC stC
  unfold MdB at HF
  clear hm hs hb2 hb3 x2 x3 hs2 hb13 hRC hl hbd hc
  obtain ⟨c0, c1, c2, c3, c4, c5, c6, c7, c8, c9⟩ := HF.out _ HB13.out
  go_enter Tryz.func64, Tryz.ntmps64
  go_wp2_with fail
  clear c0 c1 c2 c3 c4 c5 c6 c7 c8 c9
  go_loopw [7, 8, 12] (fun _ _ i wr => ∃ (j : Nat) (sj : Sta), i = .int .i64 (j : Int) ∧ j ≤ M.order.length ∧ Hid (Turned W3 wr W1.heap.size (stC r sj) 44 ∧ StQ w r sj ∧ Bd sj ∧ (M.order.take j).foldl (pasX M ev) s = sj)) (fun _ _ i _ => M.order.length - (intOf i).toNat)
  case atStart => exact ⟨0, s, rfl, Nat.zero_le _, Turned.refl HX.out.1, HSW.out, HBD.out, rfl⟩
  case round =>
    obtain ⟨j, sj, rfl, hj, HT⟩ := hrel
    have HBW : Hid (Below W1.heap.size W1 wr) := HT.out.1.low HB13.out (Nat.le_refl _)
    have HBw : Hid (Below w.heap.size w wr) := HB1.out.trans (HBW.out.mono HB1.out.size)
    rcases Nat.lt_or_ge j M.order.length with hlt | hge
    · have hkz := ltI hlt
      obtain ⟨x, b, off, hx, ha, ⟨a0, a1⟩, W7, h7, hb7, x7⟩ := sentBox (HMQ.out _ HBW.out).order hlt
      obtain ⟨-, -, -, -, -, -, -, -, -, c9⟩ := HF.out _ HBW.out
      have HBW7 := Lib.hid (HBW.out.trans (hb7.mono HBW.out.size))
      have HBw7 := Lib.hid (HBw.out.trans (hb7.mono HBw.out.size))
      have HT7 := Lib.hid (HT.out.1.grow hb7)
      have HFS := Lib.hid (firesQ (HMQ.out _ HBW7.out) (HT.out.2.1.below HBw7.out) x ev (HC.out x (List.mem_of_getElem? hx)))
      have HNX : Hid ((M.order.take (j + 1)).foldl (pasX M ev) s = pasX M ev sj x) := by
        unfold Hid; rw [List.take_add_one, hx, List.foldl_append, HT.out.2.2.2]; rfl
      have HX7 := Lib.hid x7
      obtain ⟨c0, c1, c2, c3, c4, c5, c6, c7, c8, c9'⟩ := HF.out _ HBW7.out
      unfold stC at HT7
      have d0 := HT7.out.1.cell (i := 0) rfl
      have d1 := HT7.out.1.cell (i := 1) rfl
      have d2 := HT7.out.1.cell (i := 2) rfl
      have d3 := HT7.out.1.cell (i := 3) rfl
      have d4 := HT7.out.1.cell (i := 4) rfl
      have y0 := x7.cell (i := 0) rfl
      have y1 := x7.cell (i := 1) rfl
      unfold mdC stC at HFS
      rw [ha] at HFS
      clear hx x7 hb7
      go_wp2_with fail
      refine HFS.out.mono ?_
      rintro e8 W8 ⟨rfl, hb8⟩
      have HT8 := Lib.hid (HT7.out.grow hb8)
      have HBW8 := Lib.hid (HBW7.out.trans (hb8.mono HBW7.out.size))
      have HX8 := Lib.hid (HX7.out.keep hb8)
      clear c0 c1 c2 c3 c4 c5 c6 c7 c8 c9 c9' d0 d1 d2 d3 d4 y0 y1 hb8 a0 a1
      cases hf : firesS M sj x ev
      · have HN2 : Hid ((M.order.take (j + 1)).foldl (pasX M ev) s = sj) := by unfold Hid; rw [HNX.out]; unfold pasX; rw [hf]; rfl
        clear hf
        go_wp2
        (try rw [← ha])
        go_roundw
        case rel => exact ⟨j + 1, sj, by go_num, hlt, HT8.out, HT.out.2.1, HT.out.2.2.1, HN2.out⟩
        case measure => simp [intOf]; omega
      · have HN2 : Hid ((M.order.take (j + 1)).foldl (pasX M ev) s = fireS M sj x) := by unfold Hid; rw [HNX.out]; unfold pasX; rw [hf]; rfl
        have HFI := Lib.hid (fireQ (r := r) (HMQ.out _ HBW8.out) x HT.out.2.2.1 HLL.out)
        unfold mdC stC at HFI
        rw [ha] at HFI
        obtain ⟨c0, c1, c2, c3, c4, c5, c6, c7, c8, c9⟩ := HF.out _ HBW8.out
        have d0 := HT8.out.1.cell (i := 0) rfl
        have d1 := HT8.out.1.cell (i := 1) rfl
        have d2 := HT8.out.1.cell (i := 2) rfl
        have d3 := HT8.out.1.cell (i := 3) rfl
        have d4 := HT8.out.1.cell (i := 4) rfl
        have y0 := HX8.out.cell (i := 0) rfl
        have y1 := HX8.out.cell (i := 1) rfl
        clear hf
        go_wp2_with fail
        refine HFI.out.mono ?_
        rintro e9 W9 ⟨rfl, hb9⟩
        have HT9 := Lib.hid (HT8.out.grow hb9)
        clear c0 c1 c2 c3 c4 c5 c6 c7 c8 c9 d0 d1 d2 d3 d4 y0 y1 hb9
        have d0 := HT9.out.1.cell (i := 0) rfl
        have f0 := HT9.out.1.free 0
        have d1 := HT9.out.1.cell (i := 1) rfl
        have f1 := HT9.out.1.free 1
        have d2 := HT9.out.1.cell (i := 2) rfl
        have f2 := HT9.out.1.free 2
        have d3 := HT9.out.1.cell (i := 3) rfl
        have f3 := HT9.out.1.free 3
        have d4 := HT9.out.1.cell (i := 4) rfl
        have f4 := HT9.out.1.free 4
        go_wp2
        (try rw [← ha])
        go_roundw
        case rel => exact ⟨j + 1, fireS M sj x, by go_num, hlt, HT9.out.put5 _ _ _ _ _, HT.out.2.1.fire M x, fireS_bd x HT.out.2.2.1, HN2.out⟩
        case measure => simp [intOf]; omega
    · have hkn : j = M.order.length := by omega
      subst hkn
      have hge' := nltI (Nat.not_lt.2 hge)
      have HE : Hid (RC = #[.slice r.a0 sj.vals.length r.k0, .int .i64 sj.opn, .int .i64 sj.dne, .slice r.a3 sj.did.length r.k3, .slice r.a4 sj.cnt.length r.k4]) := by
        have e : pasS M ev s = sj := by have := HT.out.2.2.2; rw [List.take_length] at this; exact this
        unfold Hid; rw [← HRC.out, e]; rfl
      have HZ : Hid (Blk wr W2.heap.size #[.slice none 0 0, .int .i64 0, .int .i64 0, .slice none 0 0, .slice none 0 0] 44) := HT.out.1.blk HX.out.2 (by have := HSZ.out; omega)
      have HTS := HT.out.1
      unfold stC at HTS
      obtain ⟨HS, -⟩ := HTS
      have HS := Lib.hid HS
      have m0 := HS.out.cell (i := 0) rfl
      have u0 := HZ.out.cell (i := 0) rfl
      have t0 := HZ.out.free 0
      have m1 := HS.out.cell (i := 1) rfl
      have u1 := HZ.out.cell (i := 1) rfl
      have t1 := HZ.out.free 1
      have m2 := HS.out.cell (i := 2) rfl
      have u2 := HZ.out.cell (i := 2) rfl
      have t2 := HZ.out.free 2
      have m3 := HS.out.cell (i := 3) rfl
      have u3 := HZ.out.cell (i := 3) rfl
      have t3 := HZ.out.free 3
      have m4 := HS.out.cell (i := 4) rfl
      have u4 := HZ.out.cell (i := 4) rfl
      have t4 := HZ.out.free 4
      obtain ⟨c0, c1, c2, c3, c4, c5, c6, c7, c8, c9⟩ := HF.out _ HBW.out
      go_wp2
      have hp := HZ.out.put5 (.slice r.a0 sj.vals.length r.k0) (.int .i64 sj.opn) (.int .i64 sj.dne) (.slice r.a3 sj.did.length r.k3) (.slice r.a4 sj.cnt.length r.k4)
      refine bodyPost_ret (v := .agg #[.slice r.a0 sj.vals.length r.k0, .int .i64 sj.opn, .int .i64 sj.dne, .slice r.a3 sj.did.length r.k3, .slice r.a4 sj.cnt.length r.k4]) (st_results hp rfl Tryz.f64 rfl) rfl ?_
      rw [HE.out]
      exact ⟨rfl, below_put5 HBw.out (by have := HSZ.out; have := HB1.out.size; omega) _ _ _ _ _⟩
end Go.Proofs.YtadjnfpomjopkaaGreat
