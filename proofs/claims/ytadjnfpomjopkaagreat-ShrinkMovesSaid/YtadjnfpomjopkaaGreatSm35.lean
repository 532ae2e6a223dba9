/- The reference: Begin, Idle, May (printed by gen_r15.py out of XBeg, XMy). The reference: On (printed by gen_r16.py). -/
import Derived.Test.YtadjnfpomjopkaaGreatSm34
import Derived.Test.YtadjnfpomjopkaaGreatSm25
import Derived.Test.YtadjnfpomjopkaaGreatSm23
import Derived.Test.YtadjnfpomjopkaaGreatSm26
import Derived.Test.YtadjnfpomjopkaaGreatSm31

namespace Go.Proofs.YtadjnfpomjopkaaGreat
open Go.RowKit

/-- a model that the reference's walk holds for -/
structure GoodR (M : Mdl) : Prop where
  stages : M.stages.length ≤ 31
  miles : M.miles.length ≤ 31
  inits : M.inits.length ≤ 1000
  events : M.events.length ≤ 1000000
  users : M.users.length ≤ 100000
  roles : ∀ x ∈ M.roles, N64 x.2
  vals : ∀ x ∈ M.inits, N64 x
theorem GoodR.start {M : Mdl} (h : GoodR M) : SOK (startS M) := by
  have z : N64 0 := by unfold N64; omega
  have hz : ∀ n, ∀ x ∈ List.replicate n (0 : Int), N64 x := fun n x hx => by rw [List.eq_of_mem_replicate hx]; exact z
  exact ⟨h.vals, by show N64 (startS M).opn; unfold startS N64; simp, by show N64 (startS M).dne; unfold startS N64; simp, hz _, hz _⟩

set_option maxRecDepth 100000 in
set_option maxHeartbeats 4000000 in
theorem rbeginQ {w : World} {q : Mem} {M : Mdl} (hm : MdQ w q M) (hg : GoodR M) :
    Calls Tryz.prog 37 #[.agg (mdC q M)] w fun e w' => (∃ r, e = .returned (.agg (stC r (beginS M))) ∧ StQ w' r (beginS M) ∧ StA w.heap.size r (beginS M)) ∧ Below w.heap.size w w' := by
  obtain ⟨W1, h1, HB1, HM, HF⟩ := boxM hm
  obtain ⟨W2, h2, hb2, x2⟩ := box1 W1 #[.slice none 0 0, .int .i64 0, .int .i64 0, .slice none 0 0, .slice none 0 0] 44
  have HX := Lib.hid x2
  have HB2 := Lib.hid hb2
  have HST : Hid (∀ V, Below W1.heap.size W1 V → Calls Tryz.prog 51 #[.agg (mdC q M)] V fun e w' => (∃ r, e = .returned (.agg (stC r (startS M))) ∧ StQ w' r (startS M) ∧ StA V.heap.size r (startS M)) ∧ Below V.heap.size V w') := fun V hV => rstartQ (HM.out.below hV) hg.inits hg.events
  have HPA : Hid (∀ V r, Below W1.heap.size W1 V → StQ V r (startS M) → Calls Tryz.prog 50 #[.agg (mdC q M), .agg (stC r (startS M)), .int .i64 (-1)] V (Ret V (.agg (stC r (beginS M))))) := fun V r hV hS => rpassQ (HM.out.below hV) hS hg.start (-1) hg.stages hg.miles
  have HSF : Hid (∀ V, Below W1.heap.size W1 V → MdB V w.heap.size q M) := HF
  unfold mdC at h1 HST HPA ⊢
  clear hm hb2 x2 hg HF
  go_enter Tryz.func37, Tryz.ntmps37
  go_upto_region 1 with fail
  have hbz : Below W1.heap.size W1 W2.drew := HB2.out.drew
  refine startH (S := fun V => MdB V w.heap.size q M) (by kernel_rfl) (HSF.out _ hbz) (fun hHeld => ?_)
  have HXR := HX.out.drew
  generalize W2.drew = D at hbz hHeld HXR ⊢
  refine takesH [0, 1] (by kernel_rfl) (fun _ _ d _ _ h => by cases d <;> exact h) (by kernel_rfl) (by kernel_rfl) (by assumption) ?_
  repeat (first
    | (refine TakeSeq.cons (v := ?_) rfl (by rfl) ?_ ?_
       rotate_left
       · ((intro w hSw; unfold MdB at hSw; go_simp) <;> (try with_reducible rfl))
       (try go_simp))
    | (refine TakeSeq.skip rfl (by rfl) ?_; (try go_simp)))
  refine TakeSeq.nil ?_
  refine callH 2 (by kernel_rfl) (by kernel_rfl) rfl (by rfl) ?_
  intro K hK
  go_simp
  go_at_call 51
  with_reducible refine (HST.out _ hbz).mono ?_
  rintro e3 V3 ⟨⟨r, rfl, hS3, hA3⟩, hbn⟩
  have hlt := HXR.lt
  have hbz := hbz.trans (hbn.mono hbz.size)
  replace HXR := HXR.keep hbn
  refine hK.out _ _ (HSF.out _ hbz) (fun hHeld => ?_)
  clear hK K hbn
  (try go_simp)
  have HPX := Lib.hid (HPA.out _ r hbz hS3)
  refine callH 3 (by kernel_rfl) (by kernel_rfl) rfl (by rfl) ?_
  intro K hK
  go_simp
  go_at_call 50
  with_reducible refine HPX.out.mono ?_
  rintro e4 V4 ⟨rfl, hbn⟩
  have hbz := hbz.trans (hbn.mono hbz.size)
  replace HXR := HXR.keep hbn
  have hS4 : StQ V4 r (beginS M) := (StQ.pass (-1) hS3 (startS_bd M)).below hbn
  have hA4 : StA D.heap.size r (beginS M) := hA3.pass (-1)
  obtain ⟨sp, hsp⟩ : ∃ s, beginS M = s := ⟨_, rfl⟩
  have HSP := Lib.hid hsp
  rw [hsp] at hS4 hA4 ⊢
  refine hK.out _ _ (HSF.out _ hbz) (fun hHeld => ?_)
  clear hK K hbn hS3 HPX HPA HST hsp
  unfold stC
  (try go_simp)
  have u0 := HXR.cell (i := 0) rfl
  have t0 := HXR.free 0
  have u1 := HXR.cell (i := 1) rfl
  have t1 := HXR.free 1
  have u2 := HXR.cell (i := 2) rfl
  have t2 := HXR.free 2
  have u3 := HXR.cell (i := 3) rfl
  have t3 := HXR.free 3
  have u4 := HXR.cell (i := 4) rfl
  have t4 := HXR.free 4
  refine callH 4 (by kernel_rfl) (by kernel_rfl) rfl (by rfl) ?_
  intro K hK
  go_simp
  refine hK.out _ _ (HSF.out _ (below_put5 hbz (Nat.le_refl _) _ _ _ _ _)) (fun hHeld => ?_)
  clear hK K
  (try go_simp)
  refine doneH (by kernel_rfl) ?_
  go_wp2
  have hp := HXR.put5 (.slice r.a0 sp.vals.length r.k0) (.int .i64 sp.opn) (.int .i64 sp.dne) (.slice r.a3 sp.did.length r.k3) (.slice r.a4 sp.cnt.length r.k4)
  refine bodyPost_ret (v := .agg #[.slice r.a0 sp.vals.length r.k0, .int .i64 sp.opn, .int .i64 sp.dne, .slice r.a3 sp.did.length r.k3, .slice r.a4 sp.cnt.length r.k4]) (st_results hp rfl Tryz.f37 rfl) rfl ?_
  have hT := (Turned.refl HXR).put5 (.slice r.a0 sp.vals.length r.k0) (.int .i64 sp.opn) (.int .i64 sp.dne) (.slice r.a3 sp.did.length r.k3) (.slice r.a4 sp.cnt.length r.k4)
  rw [HSP.out]
  exact ⟨⟨r, rfl, hS4.turn hA4 hT hlt, hA4.mono (by have := HB1.out.size; omega)⟩, HB1.out.trans ((hbz.trans hT.2.1).mono HB1.out.size)⟩
set_option maxRecDepth 100000 in
set_option maxHeartbeats 1000000 in
theorem ridleQ {w : World} (v : Mv) (ad : Option Addr) (cp : Nat) :
    Calls Tryz.prog 53 #[.agg #[.int .i64 v.event, .int .i64 v.user, .slice ad v.vals.length cp]] w (Ret w (.bool (idlM v))) := by
  obtain ⟨W1, h1, hb1, x1⟩ := box1 w #[.int .i64 v.event, .int .i64 v.user, .slice ad v.vals.length cp] 58
  have c0 := x1.cell (i := 0) rfl
  have c1 := x1.cell (i := 1) rfl
  have c2 := x1.cell (i := 2) rfl
  obtain ⟨n, hn⟩ : ∃ n, v.vals.length = n := ⟨_, rfl⟩
  have HI : Hid (idlM v = (decide (v.event = -1) && decide (v.user = -1) && decide (n = 0))) := by unfold Hid idlM; rw [hn]
  rw [hn] at h1 c2 x1 ⊢
  clear hn
  by_cases p1 : v.event = -1
  · have d1 : (v.event == -1) = true := by simp [p1]
    rw [decide_eq_true p1] at HI
    clear p1
    by_cases p2 : v.user = -1
    · have d2 : (v.user == -1) = true := by simp [p2]
      rw [decide_eq_true p2] at HI
      clear p2
      by_cases p3 : n = 0
      · have HR : Hid (idlM v = true) := by unfold Hid; rw [HI.out, decide_eq_true p3]; rfl
        subst p3
        go_enter Tryz.func53, Tryz.ntmps53
        go_wp2
        go_ret
        exact ⟨ret_bool HR.out.symm, hb1⟩
      · have HR : Hid (idlM v = false) := by unfold Hid; rw [HI.out, decide_eq_false p3]; rfl
        have d3 : ((n : Int) == 0) = false := by rw [beq_eq_false_iff_ne]; omega
        clear p3
        go_enter Tryz.func53, Tryz.ntmps53
        go_wp2
        go_ret
        exact ⟨ret_bool HR.out.symm, hb1⟩
    · have d2 : (v.user == -1) = false := by rw [beq_eq_false_iff_ne]; exact p2
      have HR : Hid (idlM v = false) := by unfold Hid; rw [HI.out, decide_eq_false p2]; rfl
      clear p2
      go_enter Tryz.func53, Tryz.ntmps53
      go_wp2
      go_ret
      exact ⟨ret_bool HR.out.symm, hb1⟩
  · have d1 : (v.event == -1) = false := by rw [beq_eq_false_iff_ne]; exact p1
    have HR : Hid (idlM v = false) := by unfold Hid; rw [HI.out, decide_eq_false p1]; rfl
    clear p1
    go_enter Tryz.func53, Tryz.ntmps53
    go_wp2
    go_ret
    exact ⟨ret_bool HR.out.symm, hb1⟩
set_option maxRecDepth 100000 in
set_option maxHeartbeats 4000000 in
theorem rmayQ {w : World} {q : Mem} {M : Mdl} {r : Stm} {s : Sta} (hm : MdQ w q M) (hs : StQ w r s) (hk : SOK s) (hg : GoodR M) (v : Mv) (ad : Option Addr) (cp : Nat) :
    Calls Tryz.prog 52 #[.agg (mdC q M), .agg (stC r s), .agg #[.int .i64 v.event, .int .i64 v.user, .slice ad v.vals.length cp]] w (Ret w (.int .i64 (mayS M s v))) := by
  obtain ⟨W1, W2, h1, h2, HB2, HM, HS, HF⟩ := boxMS hm hs
  obtain ⟨W3, h3, hb3, x3⟩ := box1 W2 #[.int .i64 v.event, .int .i64 v.user, .slice ad v.vals.length cp] 58
  have HB3 := Lib.hid hb3
  have HX3 := Lib.hid x3
  have HMQ : Hid (∀ V, Below W2.heap.size W2 V → MdQ V q M) := fun V hV => HM.out.below hV
  have HSQ : Hid (∀ V, Below W2.heap.size W2 V → StQ V r s) := fun V hV => HS.out.below hV
  have HCH := Lib.hid (rcheckQ (HMQ.out _ hb3) (HSQ.out _ hb3) hk)
  have HBE : Hid (∀ V, Below W2.heap.size W2 V → Below w.heap.size w V) := fun V hV => HB2.out.trans (hV.mono HB2.out.size)
  have HID : Hid (∀ V, Calls Tryz.prog 53 #[.agg #[.int .i64 v.event, .int .i64 v.user, .slice ad v.vals.length cp]] V (Ret V (.bool (idlM v)))) := fun V => ridleQ v ad cp
  have HEN : Hid (∀ V, Below W2.heap.size W2 V → Calls Tryz.prog 46 #[.agg (mdC q M), .agg (stC r s), .int .i64 v.event, .int .i64 v.user] V (Ret V (.bool (enabS M s v.event v.user)))) := fun V hV => renabQ (HMQ.out _ hV) (HSQ.out _ hV) hk hg.roles _ _
  have HAN : Hid (∀ V, Below W2.heap.size W2 V → Calls Tryz.prog 49 #[.agg (mdC q M), .agg (stC r s)] V (Ret V (.bool (anyS M s)))) := fun V hV => ranyQ (HMQ.out _ hV) (HSQ.out _ hV) hk hg.roles hg.users
  obtain ⟨mz, hmz⟩ : ∃ m, mayS M s v = m := ⟨_, rfl⟩
  rw [hmz]
  have HMY := hmz.symm
  unfold mayS at HMY
  replace HMY := Lib.hid HMY
  have hme := HM.out.events.max
  unfold mdC at h1 HCH HEN HAN
  unfold stC at h2 HCH HEN HAN
  unfold mdC stC
  unfold MdB StB at HF
  clear hm hs hb3 x3 hmz hk hg
  obtain ⟨⟨c0, c1, c2, c3, c4, c5, c6, c7, c8, c9⟩, d0, d1, d2, d3, d4⟩ := HF.out _ HB3.out
  have y0 := HX3.out.cell (i := 0) rfl
  have y1 := HX3.out.cell (i := 1) rfl
  have y2 := HX3.out.cell (i := 2) rfl
  go_enter Tryz.func52, Tryz.ntmps52
  go_wp2_with fail
  refine HCH.out.mono ?_
  rintro e4 W4 ⟨rfl, hb4⟩
  have HB4 := Lib.hid (HB3.out.trans (hb4.mono HB3.out.size))
  have HX4 := Lib.hid (HX3.out.keep hb4)
  clear c0 c1 c2 c3 c4 c5 c6 c7 c8 c9 d0 d1 d2 d3 d4 y0 y1 y2 hb4
  cases hch : chkS M s
  · have HE : Hid (mz = 15) := by unfold Hid; rw [HMY.out, if_pos hch]
    clear hch
    go_wp2
    go_ret
    exact ⟨ret_int HE.out.symm, HBE.out _ HB4.out⟩
  rw [hch, if_neg (by simp)] at HMY
  clear hch
  cases hid : idlM v
  · rw [hid] at HID HMY
    rw [if_neg (by simp)] at HMY
    clear hid
    have y0 := HX4.out.cell (i := 0) rfl
    have y1 := HX4.out.cell (i := 1) rfl
    have y2 := HX4.out.cell (i := 2) rfl
    go_wp2_with fail
    refine (HID.out _).mono ?_
    rintro e5 W5 ⟨rfl, hb5⟩
    have HB5 := Lib.hid (HB4.out.trans (hb5.mono HB4.out.size))
    have HX5 := Lib.hid (HX4.out.keep hb5)
    clear y0 y1 y2 hb5
    have y0 := HX5.out.cell (i := 0) rfl
    have y1 := HX5.out.cell (i := 1) rfl
    have y2 := HX5.out.cell (i := 2) rfl
    obtain ⟨⟨c0, c1, c2, c3, c4, c5, c6, c7, c8, c9⟩, d0, d1, d2, d3, d4⟩ := HF.out _ HB5.out
    have y0 := HX5.out.cell (i := 0) rfl
    have y1 := HX5.out.cell (i := 1) rfl
    have y2 := HX5.out.cell (i := 2) rfl
    go_wp2_with fail
    refine (HEN.out _ HB5.out).mono ?_
    rintro e7 W7 ⟨rfl, hb7⟩
    have HB7 := Lib.hid (HB5.out.trans (hb7.mono HB5.out.size))
    have HX7 := Lib.hid (HX5.out.keep hb7)
    clear c0 c1 c2 c3 c4 c5 c6 c7 c8 c9 d0 d1 d2 d3 d4 y0 y1 y2 hb7
    cases hen : enabS M s v.event v.user
    · have HE : Hid (mz = 16) := by unfold Hid; rw [HMY.out, if_pos hen]
      clear hen
      go_wp2
      go_ret
      exact ⟨ret_int HE.out.symm, HBE.out _ HB7.out⟩
    rw [hen, if_neg (by simp)] at HMY
    obtain ⟨k, hk, hkl⟩ := inM_nat (enabS_in hen)
    obtain ⟨x, hx⟩ : ∃ x, M.events[k]? = some x := ⟨_, List.getElem?_eq_getElem hkl⟩
    obtain ⟨b, off, cap, ai, ki, hv, hbl, -, -, -, -, g3, -⟩ := eventRow (HMQ.out _ HB7.out).events hx
    simp only [Value.slice.injEq] at hv
    have ha := hv.1
    rw [hk, Int.toNat_natCast, evG_of hx] at HMY
    obtain ⟨n1, hn1⟩ : ∃ n, v.vals.length = n := ⟨_, rfl⟩
    obtain ⟨n2, hn2⟩ : ∃ n, x.sets.length = n := ⟨_, rfl⟩
    obtain ⟨⟨c0, c1, c2, c3, c4, c5, c6, c7, c8, c9⟩, -⟩ := HF.out _ HB7.out
    have y0 := HX7.out.cell (i := 0) rfl
    have y2 := HX7.out.cell (i := 2) rfl
    rw [hk] at y0
    rw [hn1] at y2 HMY
    rw [hn2] at g3 HMY
    have hkz := ltI hkl
    clear hen hv hx hn1 hn2 hk c0 c1 c2 c3 c4 c6 c7 c8 c9
    by_cases p : n1 = n2
    · have HE : Hid (mz = 0) := by unfold Hid; rw [HMY.out, if_neg (by simp [p])]
      have hb : ((n1 : Int) != (n2 : Int)) = false := by simp [p]
      clear p
      go_upto_region 9 with fail
      go_quiet (fail)
      go_wp2
      go_ret
      exact ⟨ret_int HE.out.symm, HBE.out _ (below_drewN HB7.out _)⟩
    · have HE : Hid (mz = 17) := by unfold Hid; rw [HMY.out, if_pos p]
      have hb : ((n1 : Int) != (n2 : Int)) = true := by simp; omega
      clear p
      go_upto_region 9 with fail
      go_quiet (fail)
      go_wp2
      go_ret
      exact ⟨ret_int HE.out.symm, HBE.out _ (below_drewN HB7.out _)⟩
  · rw [hid] at HID HMY
    rw [if_pos rfl] at HMY
    clear hid
    have y0 := HX4.out.cell (i := 0) rfl
    have y1 := HX4.out.cell (i := 1) rfl
    have y2 := HX4.out.cell (i := 2) rfl
    go_wp2_with fail
    refine (HID.out _).mono ?_
    rintro e5 W5 ⟨rfl, hb5⟩
    have HB5 := Lib.hid (HB4.out.trans (hb5.mono HB4.out.size))
    have HX5 := Lib.hid (HX4.out.keep hb5)
    clear y0 y1 y2 hb5
    obtain ⟨⟨c0, c1, c2, c3, c4, c5, c6, c7, c8, c9⟩, d0, d1, d2, d3, d4⟩ := HF.out _ HB5.out
    go_wp2_with fail
    refine (HAN.out _ HB5.out).mono ?_
    rintro e6 W6 ⟨rfl, hb6⟩
    have HB6 := Lib.hid (HB5.out.trans (hb6.mono HB5.out.size))
    have HX6 := Lib.hid (HX5.out.keep hb6)
    clear c0 c1 c2 c3 c4 c5 c6 c7 c8 c9 d0 d1 d2 d3 d4 hb6
    cases han : anyS M s
    · have HE : Hid (mz = 0) := by unfold Hid; rw [HMY.out, han]; rfl
      clear han
      go_wp2
      go_ret
      exact ⟨ret_int HE.out.symm, HBE.out _ HB6.out⟩
    · have HE : Hid (mz = 16) := by unfold Hid; rw [HMY.out, han]; rfl
      clear han
      go_wp2
      go_ret
      exact ⟨ret_int HE.out.symm, HBE.out _ HB6.out⟩
end Go.Proofs.YtadjnfpomjopkaaGreat

namespace Go.Proofs.YtadjnfpomjopkaaGreat
open Go.RowKit

def insC (x : Ins) : Array Value := #[.int .i64 x.op, .int .i64 x.l.1, .int .i64 x.l.2, .int .i64 x.r.1, .int .i64 x.r.2, .int .i64 x.n, .int .i64 x.user]
def cmpX (x : Ins) : Bool := decide (3 ≤ x.op) && decide (x.op ≤ 8)
def plainS (M : Mdl) (s : Sta) (x : Ins) : Bool :=
  if x.op = 1 then true else if x.op = 9 then hasB s.opn x.n else if x.op = 10 then hasB s.dne x.n else if x.op = 11 then decide (0 < (whoN M s x.n M.users.length).length)
  else if x.op = 12 then hadS s x.n x.user else if x.op = 13 then complS M s else if x.op = 14 then stuckS M s else false
/-- a condition of one operation holds (the reference) -/
def onS (M : Mdl) (s : Sta) (x : Ins) : Bool := if cmpX x = true then condO [x] s == some true else plainS M s x

set_option maxRecDepth 100000 in
set_option maxHeartbeats 1000000 in
theorem rcmpsQ {w : World} (x : Ins) : Calls Tryz.prog 19 #[.agg (insC x)] w (Ret w (.bool (cmpX x))) := by
  obtain ⟨W1, h1, hb1, x1⟩ := box1 w (insC x) 37
  unfold insC at h1 x1 ⊢
  have c0 : W1.cell? ⟨w.heap.size, 0, none⟩ = some (.int .i64 x.op) := x1.cell (i := 0) rfl
  clear x1
  by_cases p1 : 3 ≤ x.op
  · by_cases p2 : x.op ≤ 8
    · have HR : Hid (cmpX x = true) := by unfold Hid cmpX; simp [p1, p2]
      go_enter Tryz.func19, Tryz.ntmps19
      go_wp2
      go_ret
      exact ⟨ret_bool HR.out.symm, hb1⟩
    · have HR : Hid (cmpX x = false) := by unfold Hid cmpX; simp [p2]
      go_enter Tryz.func19, Tryz.ntmps19
      go_wp2
      go_ret
      exact ⟨ret_bool HR.out.symm, hb1⟩
  · have HR : Hid (cmpX x = false) := by unfold Hid cmpX; simp [p1]
    go_enter Tryz.func19, Tryz.ntmps19
    go_wp2
    go_ret
    exact ⟨ret_bool HR.out.symm, hb1⟩

set_option maxRecDepth 100000 in
set_option maxHeartbeats 4000000 in
theorem rplainQ {w : World} {q : Mem} {M : Mdl} {r : Stm} {s : Sta} (hm : MdQ w q M) (hs : StQ w r s) (hk : SOK s) (hg : GoodR M) (x : Ins) :
    Calls Tryz.prog 21 #[.agg (mdC q M), .agg (stC r s), .agg (insC x)] w (Ret w (.bool (plainS M s x))) := by
  obtain ⟨W1, W2, h1, h2, HB2, HM, HS, HF⟩ := boxMS hm hs
  obtain ⟨W3, h3, hb3, x3⟩ := box1 W2 (insC x) 37
  have HB3 : Hid (Below w.heap.size w W3) := HB2.out.trans (hb3.mono HB2.out.size)
  have hm3 := HM.out.below hb3
  have hs3 := HS.out.below hb3
  have HHA : Hid (∀ V, Calls Tryz.prog 32 #[.int .i64 s.opn, .int .i64 x.n] V fun e w' => e = .returned (.bool (hasB s.opn x.n)) ∧ V = w') := fun V => rhasN hk.opn x.n V
  have HHD : Hid (∀ V, Calls Tryz.prog 32 #[.int .i64 s.dne, .int .i64 x.n] V fun e w' => e = .returned (.bool (hasB s.dne x.n)) ∧ V = w') := fun V => rhasN hk.dne x.n V
  have HWH := Lib.hid (rwhoQ hm3 hs3 hk hg.roles hg.users x.n)
  have HHS := Lib.hid (rhadQ hs3 hk x.n x.user)
  have HCO := Lib.hid (rcomplQ hm3 hs3 hk)
  have HST := Lib.hid (rstuckQ hm3 hs3 hk hg.roles hg.users)
  obtain ⟨⟨c0, c1, c2, c3, c4, c5, c6, c7, c8, c9⟩, d0, d1, d2, d3, d4⟩ := HF.out _ hb3
  unfold insC at x3 h3 ⊢
  have y0 := x3.cell (i := 0) rfl
  have y5 := x3.cell (i := 5) rfl
  have y6 := x3.cell (i := 6) rfl
  unfold mdC at h1 HWH HCO HST
  unfold stC at h2 HWH HHS HCO HST
  unfold mdC stC
  clear hm hs hk hg hm3 hs3 hb3 x3 HM HS HF
  obtain ⟨o, ho⟩ : ∃ o, x.op = o := ⟨_, rfl⟩
  rw [ho] at h3 y0 ⊢
  by_cases p1 : o = 1
  · subst p1
    have HE : Hid (plainS M s x = true) := by unfold Hid plainS; rw [ho]; simp
    clear ho
    go_enter Tryz.func21, Tryz.ntmps21
    go_wp2
    go_ret
    exact ⟨ret_bool HE.out.symm, HB3.out⟩
  by_cases p9 : o = 9
  · subst p9
    have HE : Hid (plainS M s x = hasB s.opn x.n) := by unfold Hid plainS; rw [ho]; simp
    clear ho p1
    go_enter Tryz.func21, Tryz.ntmps21
    go_wp2_with fail
    refine (HHA.out W3).mono ?_
    rintro e5 W5 ⟨rfl, rfl⟩
    go_wp2
    go_ret
    exact ⟨ret_bool HE.out.symm, HB3.out⟩
  by_cases p10 : o = 10
  · subst p10
    have HE : Hid (plainS M s x = hasB s.dne x.n) := by unfold Hid plainS; rw [ho]; simp
    clear ho p1 p9
    go_enter Tryz.func21, Tryz.ntmps21
    go_wp2_with fail
    refine (HHD.out W3).mono ?_
    rintro e5 W5 ⟨rfl, rfl⟩
    go_wp2
    go_ret
    exact ⟨ret_bool HE.out.symm, HB3.out⟩
  by_cases p11 : o = 11
  · subst p11
    have HE : Hid (plainS M s x = decide (0 < (whoN M s x.n M.users.length).length)) := by unfold Hid plainS; rw [ho]; simp
    clear ho p1 p9 p10
    go_enter Tryz.func21, Tryz.ntmps21
    go_wp2_with fail
    refine HWH.out.mono ?_
    rintro e5 W5 ⟨v5, rfl, hown, hb5⟩
    obtain ⟨ad5, cap5, e5⟩ := owns_len hown
    subst e5
    clear c0 c1 c2 c3 c4 c5 c6 c7 c8 c9 d0 d1 d2 d3 d4 hown
    obtain ⟨n, hn⟩ : ∃ n, (whoN M s x.n M.users.length).length = n := ⟨_, rfl⟩
    rw [hn] at HE ⊢
    clear hn
    go_wp2
    go_ret
    exact ⟨ret_bool HE.out.symm, HB3.out.trans (hb5.mono HB3.out.size)⟩
  by_cases p12 : o = 12
  · subst p12
    have HE : Hid (plainS M s x = hadS s x.n x.user) := by unfold Hid plainS; rw [ho]; simp
    clear ho p1 p9 p10 p11
    go_enter Tryz.func21, Tryz.ntmps21
    go_wp2_with fail
    refine (HHS.out).mono ?_
    rintro e5 W5 ⟨rfl, hb5⟩
    go_wp2
    go_ret
    exact ⟨ret_bool HE.out.symm, HB3.out.trans (hb5.mono HB3.out.size)⟩
  by_cases p13 : o = 13
  · subst p13
    have HE : Hid (plainS M s x = complS M s) := by unfold Hid plainS; rw [ho]; simp
    clear ho p1 p9 p10 p11 p12
    go_enter Tryz.func21, Tryz.ntmps21
    go_wp2_with fail
    refine (HCO.out).mono ?_
    rintro e5 W5 ⟨rfl, hb5⟩
    go_wp2
    go_ret
    exact ⟨ret_bool HE.out.symm, HB3.out.trans (hb5.mono HB3.out.size)⟩
  by_cases p14 : o = 14
  · subst p14
    have HE : Hid (plainS M s x = stuckS M s) := by unfold Hid plainS; rw [ho]; simp
    clear ho p1 p9 p10 p11 p12 p13
    go_enter Tryz.func21, Tryz.ntmps21
    go_wp2_with fail
    refine (HST.out).mono ?_
    rintro e5 W5 ⟨rfl, hb5⟩
    go_wp2
    go_ret
    exact ⟨ret_bool HE.out.symm, HB3.out.trans (hb5.mono HB3.out.size)⟩
  have HE : Hid (plainS M s x = false) := by unfold Hid plainS; rw [ho]; simp [p1, p9, p10, p11, p12, p13, p14]
  have d21 : (o == 1) = false := by rw [beq_eq_false_iff_ne]; exact p1
  have d29 : (o == 9) = false := by rw [beq_eq_false_iff_ne]; exact p9
  have d30 : (o == 10) = false := by rw [beq_eq_false_iff_ne]; exact p10
  have d31 : (o == 11) = false := by rw [beq_eq_false_iff_ne]; exact p11
  have d32 : (o == 12) = false := by rw [beq_eq_false_iff_ne]; exact p12
  have d33 : (o == 13) = false := by rw [beq_eq_false_iff_ne]; exact p13
  have d34 : (o == 14) = false := by rw [beq_eq_false_iff_ne]; exact p14
  clear ho p1 p9 p10 p11 p12 p13 p14
  go_enter Tryz.func21, Tryz.ntmps21
  go_wp2
  go_ret
  exact ⟨ret_bool HE.out.symm, HB3.out⟩

set_option maxRecDepth 100000 in
set_option maxHeartbeats 4000000 in
theorem ronQ {w : World} {q : Mem} {M : Mdl} {r : Stm} {s : Sta} (hm : MdQ w q M) (hs : StQ w r s) (hk : SOK s) (hg : GoodR M) (x : Ins) :
    Calls Tryz.prog 9 #[.agg (mdC q M), .agg (stC r s), .agg (insC x)] w (Ret w (.bool (onS M s x))) := by
  obtain ⟨W1, W2, h1, h2, HB2, HM, HS, HF⟩ := boxMS hm hs
  obtain ⟨W3, h3, hb3, x3⟩ := box1 W2 (insC x) 37
  have HB3 := Lib.hid hb3
  have HX := Lib.hid x3
  have HBE : Hid (∀ V, Below W2.heap.size W2 V → Below w.heap.size w V) := fun V hV => HB2.out.trans (hV.mono HB2.out.size)
  have HCM := Lib.hid (rcmpsQ (w := W3) x)
  have HHO : Hid (∀ V ai ki, Below W2.heap.size W2 V → RowE instE 7 V (.slice ai 1 ki) [x] → Calls Tryz.prog 20 #[.slice ai 1 ki, .agg (stC r s)] V (Ret V (condV (condO [x] s)))) := fun V ai ki hV hl => rholdsQ (HS.out.below hV) hk (l := [x]) hl
  have HPL : Hid (∀ V, Below W2.heap.size W2 V → Calls Tryz.prog 21 #[.agg (mdC q M), .agg (stC r s), .agg (insC x)] V (Ret V (.bool (plainS M s x)))) := fun V hV => rplainQ (HM.out.below hV) (HS.out.below hV) hk hg x
  obtain ⟨⟨c0, c1, c2, c3, c4, c5, c6, c7, c8, c9⟩, d0, d1, d2, d3, d4⟩ := HF.out _ hb3
  have HON : Hid (onS M s x = if cmpX x = true then condO [x] s == some true else plainS M s x) := rfl
  obtain ⟨cz, hcz⟩ : ∃ z, cmpX x = z := ⟨_, rfl⟩
  obtain ⟨rz, hrz⟩ : ∃ z, onS M s x = z := ⟨_, rfl⟩
  rw [hcz] at HCM HON
  rw [hrz] at HON ⊢
  unfold insC at h3 x3 HX HCM HPL ⊢
  have y0 := x3.cell (i := 0) rfl
  have y1 := x3.cell (i := 1) rfl
  have y2 := x3.cell (i := 2) rfl
  have y3 := x3.cell (i := 3) rfl
  have y4 := x3.cell (i := 4) rfl
  have y5 := x3.cell (i := 5) rfl
  have y6 := x3.cell (i := 6) rfl
  unfold mdC at h1 HPL
  unfold stC at h2 HPL HHO
  unfold mdC stC
  clear hm hs hk hg hb3 x3 HM HS hcz hrz
  go_enter Tryz.func9, Tryz.ntmps9
  go_wp2_with fail
  refine HCM.out.mono ?_
  rintro e4 W4 ⟨rfl, hb4⟩
  have HB4 := Lib.hid (HB3.out.trans (hb4.mono HB3.out.size))
  have HX4 := Lib.hid (HX.out.keep hb4)
  clear c0 c1 c2 c3 c4 c5 c6 c7 c8 c9 d0 d1 d2 d3 d4 y0 y1 y2 y3 y4 y5 y6 hb4
  obtain ⟨⟨c0, c1, c2, c3, c4, c5, c6, c7, c8, c9⟩, d0, d1, d2, d3, d4⟩ := HF.out _ HB4.out
  have y0 := HX4.out.cell (i := 0) rfl
  have y1 := HX4.out.cell (i := 1) rfl
  have y2 := HX4.out.cell (i := 2) rfl
  have y3 := HX4.out.cell (i := 3) rfl
  have y4 := HX4.out.cell (i := 4) rfl
  have y5 := HX4.out.cell (i := 5) rfl
  have y6 := HX4.out.cell (i := 6) rfl
  cases cz
  · have HE : Hid (rz = plainS M s x) := by unfold Hid; rw [HON.out]; rfl
    go_wp2_with fail
    refine (HPL.out _ HB4.out).mono ?_
    rintro e5 W5 ⟨rfl, hb5⟩
    go_wp2
    go_ret
    exact ⟨ret_bool HE.out.symm, HBE.out _ (HB4.out.trans (hb5.mono HB4.out.size))⟩
  · have HE : Hid (rz = (condO [x] s == some true)) := by unfold Hid; rw [HON.out]; rfl
    obtain ⟨cb, zb, hcv, hcb⟩ := condV_two (condO [x] s)
    rw [hcv] at HHO
    rw [hcb] at HE
    clear hcv hcb
    obtain ⟨W5, h5, hb5, x5⟩ := box1 W4 #[.int .i64 x.op, .int .i64 x.l.1, .int .i64 x.l.2, .int .i64 x.r.1, .int .i64 x.r.2, .int .i64 x.n, .int .i64 x.user] 37
    have HB5 := Lib.hid (HB4.out.trans (hb5.mono HB4.out.size))
    have HRW : Hid (RowE instE 7 W5 (.slice (some ⟨W4.heap.size, 0, none⟩) 1 1) [x]) := by
      refine ⟨_, _, rfl, ⟨(fun h => by cases h), (by simp), (by unfold maxLen; omega)⟩, .inr ⟨_, 0, rfl, x5.lt, fun i a hi => ?_⟩⟩
      have hi0 : i = 0 := by have := (List.getElem?_eq_some_iff.1 hi).1; simp at this; omega
      subst hi0
      obtain rfl : x = a := by simpa using hi
      refine ⟨_, rfl, rfl, fun j u hj => ?_⟩
      have := x5.cell (i := j) (v := u) (by simpa using hj)
      simpa using this
    have HHX := Lib.hid (HHO.out W5 _ _ HB5.out HRW.out)
    clear hb5 x5 c0 c1 c2 c3 c4 c5 c6 c7 c8 c9 d0 d1 d2 d3 d4
    obtain ⟨⟨c0, c1, c2, c3, c4, c5, c6, c7, c8, c9⟩, d0, d1, d2, d3, d4⟩ := HF.out _ HB5.out
    go_wp2_with fail
    refine HHX.out.mono ?_
    rintro e6 W6 ⟨rfl, hb6⟩
    go_wp2
    go_ret
    exact ⟨ret_bool HE.out.symm, HBE.out _ (HB5.out.trans (hb6.mono HB5.out.size))⟩
end Go.Proofs.YtadjnfpomjopkaaGreat
