/- step.take (printed by gen_tk.py). -/
import Derived.Test.YtadjnfpomjopkaaGreatSm21

namespace Go.Proofs.YtadjnfpomjopkaaGreat
open Go.RowKit
/-- what take gives -/
def TkP (w : World) (M : Mdl) (s : Sta) (v : Mv) : Ending → World → Prop := fun e w' => (∃ r', e = .returned (.agg (stC r' (takeS M s v))) ∧ StQ w' r' (takeS M s v) ∧ StA w.heap.size r' (takeS M s v)) ∧ Below w.heap.size w w'
theorem OwnI.rowL {w : World} {base : Nat} {ad : Option Addr} {t : TypeId} {l : List Int} (h : OwnI w base ad t l) {n : Nat} (hn : l.length = n) (hl : n ≤ 1000000) : RowE intE 1 w (.slice ad l.length n) l := by
  refine h.row n (by omega) (by unfold maxLen; omega) (fun e => ?_)
  rcases h with h | ⟨g, cur, ha, _⟩
  · rw [← hn, h.1]; rfl
  · rw [ha] at e; cases e
/-- what a state is that was taken, once its rows lie in memory of their own -/
theorem take_end {w V V' : World} {M : Mdl} {s : Sta} {v : Mv} {B b k : Nat} {x : Ev} {cs : Array Value} {u : TypeId} {ad0 ad3 ad4 : Option Addr} {dk : Int} {C4 : List Int} (hx : M.events[k]? = some x) (hk : v.event = (k : Int)) (hB : w.heap.size ≤ B) (hb : b < B)
    (hT : Turned V V' b cs u) (h0 : OwnI V B ad0 2 (setV x.sets v.vals s.vals)) (hd : s.did[k]? = some dk) (h3 : OwnI V B ad3 3 (s.did.set k (putZ dk v.user true))) (h4 : OwnI V B ad4 3 C4) (hC : C4 = if 0 < x.times then s.cnt.set k (s.cnt.getD k 0 + 1) else s.cnt)
    (hL : s.vals.length ≤ 1000000 ∧ s.did.length ≤ 1000000 ∧ s.cnt.length ≤ 1000000) (hbel : Below w.heap.size w V') :
    TkP w M s v (.returned (.agg #[.slice ad0 s.vals.length s.vals.length, .int .i64 s.opn, .int .i64 s.dne, .slice ad3 s.did.length s.did.length, .slice ad4 s.cnt.length s.cnt.length])) V' := by
  have e0 : (takeS M s v).vals = setV x.sets v.vals s.vals := by unfold takeS; rw [hk, Int.toNat_natCast, evG_of hx]
  have e3 : (takeS M s v).did = s.did.set k (putZ dk v.user true) := by unfold takeS; rw [hk, Int.toNat_natCast, List.getD_eq_getElem?_getD, hd]; rfl
  have e4 : (takeS M s v).cnt = C4 := by unfold takeS; rw [hk, Int.toNat_natCast, evG_of hx, hC]
  have l0 : (takeS M s v).vals.length = s.vals.length := by rw [e0, setV_len]
  have l3 : (takeS M s v).did.length = s.did.length := by rw [e3, List.length_set]
  have l4 : (takeS M s v).cnt.length = s.cnt.length := by rw [e4, hC]; split <;> simp
  have r0 := (h0.turn hT hb).rowL (n := s.vals.length) (by rw [setV_len]) hL.1
  have r3 := (h3.turn hT hb).rowL (n := s.did.length) (by rw [List.length_set]) hL.2.1
  have r4 := (h4.turn hT hb).rowL (n := s.cnt.length) (by rw [← e4]; exact l4) hL.2.2
  refine ⟨⟨⟨ad0, s.vals.length, ad3, s.did.length, ad4, s.cnt.length⟩, ?_, ⟨?_, ?_, ?_⟩, ⟨?_, ?_, ?_⟩⟩, hbel⟩
  · unfold stC; rw [l0, l3, l4]; rfl
  · rw [← e0] at r0; exact r0
  · rw [← e3] at r3; exact r3
  · rw [← e4] at r4; exact r4
  · rw [e0]; exact h0.lies hB
  · rw [e3]; exact h3.lies hB
  · rw [e4]; exact h4.lies hB
set_option maxRecDepth 100000 in
set_option maxHeartbeats 8000000 in
theorem takeQ {w : World} {q : Mem} {M : Mdl} {r : Stm} {s : Sta} (hm : MdQ w q M) (hs : StQ w r s) {v : Mv} {ad : Option Addr} {cp : Nat} (hv : RowE intE 1 w (.slice ad v.vals.length cp) v.vals) {k : Nat} (hk : v.event = (k : Int)) (hkl : k < M.events.length)
    (hL : s.vals.length ≤ 1000000 ∧ s.did.length = M.events.length ∧ s.cnt.length = M.events.length ∧ M.events.length ≤ 1000000) (hvl : v.vals.length = (evG M k).sets.length) (hcn : 0 < (evG M k).times → N64 (s.cnt.getD k 0 + 1)) :
    Calls Tryz.prog 68 #[.agg (mdC q M), .agg (stC r s), .agg #[.int .i64 v.event, .int .i64 v.user, .slice ad v.vals.length cp]] w (TkP w M s v) := by
  obtain ⟨W1, h1, HB1, HM, HF⟩ := boxM hm
  have HS := Lib.hid (hs.below HB1.out)
  have HV := Lib.hid (hv.below intE_keep HB1.out)
  obtain ⟨W2, h2, hb2, x2⟩ := box1 W1 (stC r s) 44
  obtain ⟨W3, h3, hb3, x3⟩ := box1 W2 #[.int .i64 v.event, .int .i64 v.user, .slice ad v.vals.length cp] 58
  obtain ⟨W4, h4, hb4, x4⟩ := box1 W3 #[.slice none 0 0, .int .i64 0, .int .i64 0, .slice none 0 0, .slice none 0 0] 44
  have hs2 : W2.heap.size = W1.heap.size + 1 := by rw [← h2]; simp
  have hs3 : W3.heap.size = W2.heap.size + 1 := by rw [← h3]; simp
  have hb24 := hb3.trans (hb4.mono hb3.size)
  have hb14 := hb2.trans (hb24.mono hb2.size)
  obtain ⟨x, hx⟩ : ∃ x, M.events[k]? = some x := ⟨_, List.getElem?_eq_getElem hkl⟩
  obtain ⟨b, off, cap5, ai, ki, hv5, hbl, hsr, a0, a1, a2, a3, a4⟩ := eventRow hm.events hx
  simp only [Value.slice.injEq] at hv5
  have ha := hv5.1
  have hbw4 := HB1.out.trans (hb14.mono HB1.out.size)
  replace a0 := (hbw4.cell (p := ⟨b, off + k * 5, none⟩) hbl).trans a0
  replace a1 := (hbw4.cell (p := ⟨b, off + k * 5 + 1, none⟩) hbl).trans a1
  replace a2 := (hbw4.cell (p := ⟨b, off + k * 5 + 2, none⟩) hbl).trans a2
  replace a3 := (hbw4.cell (p := ⟨b, off + k * 5 + 3, none⟩) hbl).trans a3
  replace a4 := (hbw4.cell (p := ⟨b, off + k * 5 + 4, none⟩) hbl).trans a4
  have HSR := Lib.hid hsr
  have HVR := Lib.hid hv
  have HVS : Hid (v.vals.length = x.sets.length) := by unfold Hid; rw [hvl, evG_of hx]
  have HEX := Lib.hid hx
  have HEK := Lib.hid hk
  have HCN : Hid (0 < x.times → N64 (s.cnt.getD k 0 + 1)) := by rw [evG_of hx] at hcn; exact hcn
  obtain ⟨W5, h5, hb5, x5⟩ := box1 W4 #[.string x.name, .int .i64 x.role, .int .i64 x.stage, .slice ai x.sets.length ki, .int .i64 x.times] 56
  have hB5 := hb14.trans (hb5.mono hb14.size)
  replace x2 := x2.keep (hb24.trans (hb5.mono hb24.size))
  have hb35 := hb4.trans (hb5.mono hb4.size)
  replace x3 := x3.keep hb35
  replace x4 := x4.keep hb5
  have HO64 : Hid (∀ V, Below W5.heap.size W5 V → Calls Tryz.prog 81 #[.slice r.a0 s.vals.length r.k0] V fun e w' => (∃ ad, e = .returned (.slice ad s.vals.length s.vals.length) ∧ OwnI w' V.heap.size ad 2 s.vals) ∧ Below V.heap.size V w') := fun V hV => own64Q ((HS.out.below (hB5.trans (hV.mono hB5.size))).vals) (by omega)
  have HO3 : Hid (∀ V, Below W5.heap.size W5 V → Calls Tryz.prog 82 #[.slice r.a3 s.did.length r.k3] V fun e w' => (∃ ad, e = .returned (.slice ad s.did.length s.did.length) ∧ OwnI w' V.heap.size ad 3 s.did) ∧ Below V.heap.size V w') := fun V hV => ownQ ((HS.out.below (hB5.trans (hV.mono hB5.size))).did) (by omega)
  have HO4 : Hid (∀ V, Below W5.heap.size W5 V → Calls Tryz.prog 82 #[.slice r.a4 s.cnt.length r.k4] V fun e w' => (∃ ad, e = .returned (.slice ad s.cnt.length s.cnt.length) ∧ OwnI w' V.heap.size ad 3 s.cnt) ∧ Below V.heap.size V w') := fun V hV => ownQ ((HS.out.below (hB5.trans (hV.mono hB5.size))).cnt) (by omega)
  have HLT : Hid (W1.heap.size < W5.heap.size) := by have := hb14.size; have := hb5.size; have := hb24.size; unfold Hid; omega
  have HSF : Hid (∀ V, Below W5.heap.size W5 V → StB V W1.heap.size r s) := fun V hV => .of (x2.keep hV)
  rw [hk] at h3 x3 ⊢
  unfold mdC at h1 ⊢
  rw [ha] at h1 ⊢
  unfold stC at h2 x2 ⊢
  have HX := Lib.hid (And.intro x2 (And.intro x3 (And.intro x4 x5)))
  have HSZ := Lib.hid (And.intro hs2 (And.intro hs3 hB5))
  have HSZ4 : Hid (W4.heap.size = W3.heap.size + 1) := by unfold Hid; rw [← h4]; simp
  have HLL := Lib.hid hL
  have HVL := Lib.hid hvl
  have hme := ltI hkl
  have hk0 : (0 : Int) ≤ (k : Int) := Int.natCast_nonneg _
  have HA := Lib.hid ha
  have HF4 : Hid (MdB W4 w.heap.size q M) := HF.out _ hb14
  unfold MdB at HF4
  obtain ⟨c0, c1, c2, c3, c4, c5, c6, c7, c8, c9⟩ := HF4.out
  rw [ha] at c5
  have y0 : W4.cell? ⟨W2.heap.size, 0, none⟩ = some (.int .i64 (k : Int)) := by
    rw [← hb5.cell (p := ⟨W2.heap.size, 0, none⟩) (by show W2.heap.size < W4.heap.size; have := hb4.size; have := hb3.size; omega)]
    exact x3.cell (i := 0) rfl
  clear hm hs hv hcn hb2 hb3 hb4 x3 x4 x5 hs2 hs3 hb24 hb14 hb5 hb35 hB5 hk HF4 ha hx hL hvl hv5 hbw4 hsr
  go_enter Tryz.func68, Tryz.ntmps68
  go_upto_region 2 with fail
  go_cut [] (fun wx => ∃ ad0 ad3 ad4, Hid (Turned W5 wx W1.heap.size #[.slice ad0 s.vals.length s.vals.length, .int .i64 s.opn, .int .i64 s.dne, .slice ad3 s.did.length s.did.length, .slice ad4 s.cnt.length s.cnt.length] 44 ∧ OwnI wx W5.heap.size ad0 2 s.vals ∧ OwnI wx W5.heap.size ad3 3 s.did ∧ OwnI wx W5.heap.size ad4 3 s.cnt ∧ (∀ a a' : Addr, ad0 = some a → ad3 = some a' → a'.block ≠ a.block) ∧ (∀ a a' : Addr, ad0 = some a → ad4 = some a' → a'.block ≠ a.block) ∧ (∀ a a' : Addr, ad3 = some a → ad4 = some a' → a'.block ≠ a.block)))
  case first =>
    have hbz : Below W5.heap.size W5 W5.drew := (Below.refl _ _).drew
    refine startG (S := fun V => StB V W1.heap.size r s) (fun j => j == 10 || j == 12 || j == 14) (fun j => j == 9 || j == 11 || j == 13) (by kernel_rfl) (HSF.out _ hbz) (fun hHeld => ?_)
    have HSB := x2.drew
    generalize W5.drew = D at hbz hHeld HSB ⊢
    refine takesG [0, 1, 3, 4, 6, 7] (by kernel_rfl) (fun _ _ d _ _ h => by cases d <;> exact h) (by kernel_rfl) (by kernel_rfl) (by kernel_rfl) (by assumption) ?_
    repeat (first
      | (refine TakeSeq2.cons (v := ?_) rfl rfl (by rfl) ?_ ?_
         rotate_left
         · ((intro w hSw; unfold StB at hSw; go_simp) <;> (try with_reducible rfl))
         (try go_simp))
      | (refine TakeSeq2.pure (v := ?_) rfl rfl (by rfl) ?_ ?_
         rotate_left
         · ((intro w hSw; go_simp) <;> (try with_reducible rfl))
         (try go_simp))
      | (refine TakeSeq2.skip rfl (by rfl) ?_; (try go_simp)))
    refine TakeSeq2.nil ?_
    refine callG1 2 (by kernel_rfl) (by kernel_rfl) rfl (by rfl) ?_
    intro K hK
    go_simp
    go_at_call 81
    with_reducible refine (HO64.out _ hbz).mono ?_
    rintro e1 V1 ⟨⟨ad0, rfl, ho0⟩, hbn⟩
    replace ho0 := ho0.mono hbz.size
    have hbz := hbz.trans (hbn.mono hbz.size)
    replace HSB := HSB.keep hbn
    refine hK.out _ _ (fun _ => HSF.out _ hbz) ?_
    clear hK K hbn
    (try go_simp)
    refine takesP [9] (by kernel_rfl) (fun _ _ d _ _ h => by cases d <;> exact h) (by kernel_rfl) (by kernel_rfl) (by kernel_rfl) ?_
    repeat (refine TakeSeq.cons (v := ?_) rfl (by rfl) ?_ ?_
            rotate_left
            · ((intro w hSw; go_simp) <;> (try with_reducible rfl))
            (try go_simp))
    refine TakeSeq.nil ?_
    refine callG1 5 (by kernel_rfl) (by kernel_rfl) rfl (by rfl) ?_
    intro K hK
    go_simp
    go_at_call 82
    with_reducible refine (HO3.out _ hbz).mono ?_
    rintro e2 V2 ⟨⟨ad3, rfl, ho3⟩, hbn⟩
    have hap03 := ho0.apart ho3
    replace ho3 := ho3.mono hbz.size
    have hbz := hbz.trans (hbn.mono hbz.size)
    replace HSB := HSB.keep hbn
    replace ho0 := ho0.keep hbn
    refine hK.out _ _ (fun _ => HSF.out _ hbz) ?_
    clear hK K hbn
    (try go_simp)
    refine callG1 8 (by kernel_rfl) (by kernel_rfl) rfl (by rfl) ?_
    intro K hK
    go_simp
    go_at_call 82
    with_reducible refine (HO4.out _ hbz).mono ?_
    rintro e3 V3 ⟨⟨ad4, rfl, ho4⟩, hbn⟩
    have hap04 := ho0.apart ho4
    have hap34 := ho3.apart ho4
    replace ho4 := ho4.mono hbz.size
    have hbz := hbz.trans (hbn.mono hbz.size)
    replace HSB := HSB.keep hbn
    replace ho0 := ho0.keep hbn
    replace ho3 := ho3.keep hbn
    refine hK.out _ _ (fun _ => HSF.out _ hbz) ?_
    clear hK K hbn
    (try go_simp)
    have d0 := HSB.cell (i := 0) rfl
    have f0 := HSB.free 0
    have d3 := HSB.cell (i := 3) rfl
    have f3 := HSB.free 3
    have d4 := HSB.cell (i := 4) rfl
    have f4 := HSB.free 4
    refine callG1 10 (by kernel_rfl) (by kernel_rfl) rfl (by rfl) ?_
    intro K hK
    go_simp
    refine hK.out _ _ (fun h => absurd h (by decide)) ?_
    clear hK K
    (try go_simp)
    refine takesP [11] (by kernel_rfl) (fun _ _ d _ _ h => by cases d <;> exact h) (by kernel_rfl) (by kernel_rfl) (by kernel_rfl) ?_
    repeat (refine TakeSeq.cons (v := ?_) rfl (by rfl) ?_ ?_
            rotate_left
            · ((intro w hSw; go_simp) <;> (try with_reducible rfl))
            (try go_simp))
    refine TakeSeq.nil ?_
    refine callG1 12 (by kernel_rfl) (by kernel_rfl) rfl (by rfl) ?_
    intro K hK
    go_simp
    refine hK.out _ _ (fun h => absurd h (by decide)) ?_
    clear hK K
    (try go_simp)
    refine takesP [13] (by kernel_rfl) (fun _ _ d _ _ h => by cases d <;> exact h) (by kernel_rfl) (by kernel_rfl) (by kernel_rfl) ?_
    repeat (refine TakeSeq.cons (v := ?_) rfl (by rfl) ?_ ?_
            rotate_left
            · ((intro w hSw; go_simp) <;> (try with_reducible rfl))
            (try go_simp))
    refine TakeSeq.nil ?_
    refine callG1 14 (by kernel_rfl) (by kernel_rfl) rfl (by rfl) ?_
    intro K hK
    go_simp
    refine hK.out _ _ (fun h => absurd h (by decide)) ?_
    clear hK K
    (try go_simp)
    refine doneG (by kernel_rfl) ?_
    go_wp2_with fail
    go_meet
    have hT := (((Turned.refl HSB).store 0 (.slice ad0 s.vals.length s.vals.length)).store 3 (.slice ad3 s.did.length s.did.length)).store 4 (.slice ad4 s.cnt.length s.cnt.length)
    exact ⟨ad0, ad3, ad4, ((((Turned.refl x2).grow hbz).store 0 (.slice ad0 s.vals.length s.vals.length)).store 3 (.slice ad3 s.did.length s.did.length)).store 4 (.slice ad4 s.cnt.length s.cnt.length), ho0.turn hT HLT.out, ho3.turn hT HLT.out, ho4.turn hT HLT.out, hap03, hap04, hap34⟩
  case rest =>
    obtain ⟨ad0, ad3, ad4, HC⟩ := hcut
    have HT := Lib.hid HC.out.1
    have HBC : Hid (Below W1.heap.size W1 wc) := HT.out.low HSZ.out.2.2 (Nat.le_refl _)
    have HX2 : Hid (Blk wc W2.heap.size #[.int .i64 (k : Int), .int .i64 v.user, .slice ad v.vals.length cp] 58) := HT.out.blk HX.out.2.1 (by have := HSZ.out.1; omega)
    have HX3 : Hid (Blk wc W3.heap.size #[.slice none 0 0, .int .i64 0, .int .i64 0, .slice none 0 0, .slice none 0 0] 44) := HT.out.blk HX.out.2.2.1 (by have := HSZ.out.1; have := HSZ.out.2.1; omega)
    have HX4 := Lib.hid (HT.out.blk HX.out.2.2.2 (by have := HSZ.out.1; have := HSZ.out.2.1; have := HSZ4.out; omega))
    have HWC : Hid (W5.heap.size ≤ wc.heap.size ∧ W4.heap.size < W5.heap.size ∧ W1.heap.size < W2.heap.size ∧ W2.heap.size < W3.heap.size ∧ W3.heap.size < W4.heap.size) := ⟨HT.out.2.1.size, HX.out.2.2.2.lt, by have := HSZ.out.1; omega, by have := HSZ.out.2.1; omega, by have := HSZ4.out; omega⟩
    have e3 := HX4.out.cell (i := 3) rfl
    have hsx := HSR.out.max
    go_wp2_with fail
    go_loopw [8, 9, 31] (fun _ _ i wr => ∃ j : Nat, i = .int .i64 (j : Int) ∧ j ≤ x.sets.length ∧ Hid (OwnT wc wr W5.heap.size ad0 2 (setV (x.sets.take j) (v.vals.take j) s.vals))) (fun _ _ i _ => x.sets.length - (intOf i).toNat)
    case atStart => exact ⟨0, rfl, Nat.zero_le _, OwnT.refl (by simpa [setV] using HC.out.2.1)⟩
    case round =>
      obtain ⟨j, rfl, hj, HO⟩ := hrel
      have HBW : Hid (Below w.heap.size w wr) := by
        have h1 := HBC.out
        have h2 := HO.out.2.1
        have h3 := HWC.out
        have h4 := HB1.out.size
        exact HB1.out.trans ((h1.mono h4).trans (h2.mono (by omega)))
      have HSW := Lib.hid (HO.out.low HT.out.1 HLT.out)
      have HMW := Lib.hid (HO.out.low HX2.out (by have := HWC.out; omega))
      obtain ⟨nv, hnv⟩ : ∃ n, s.vals.length = n := ⟨_, rfl⟩
      have HNV := Lib.hid hnv
      rcases Nat.lt_or_ge j x.sets.length with hlt | hge
      · have hkz := ltI hlt
        obtain ⟨a, hA⟩ : ∃ a, x.sets[j]? = some a := ⟨_, List.getElem?_eq_getElem hlt⟩
        obtain ⟨n, hN⟩ : ∃ n, v.vals[j]? = some n := ⟨_, List.getElem?_eq_getElem (by have := HVS.out; omega)⟩
        obtain ⟨b6, o6, c6', hv6, hb6, z6⟩ := (HSR.out.below intE_keep HBW.out).int hA
        obtain ⟨b7, o7, c7', hv7, hb7, z7⟩ := (HVR.out.below intE_keep HBW.out).int hN
        simp only [Value.slice.injEq] at hv6 hv7
        have hai := hv6.1
        have had := hv7.1
        have HST := Lib.hid (setV_step x.sets v.vals s.vals hA hN)
        have HLN := Lib.hid (setV_len (x.sets.take j) (v.vals.take j) s.vals)
        have m0 := HSW.out.cell (i := 0) rfl
        have m2 := HMW.out.cell (i := 2) rfl
        clear hv6 hv7 hA hN e3
        rcases (show a < 0 ∨ (0 ≤ a ∧ (s.vals.length : Int) ≤ a) ∨ (0 ≤ a ∧ a < (s.vals.length : Int)) by omega) with p | p | p
        · have HNX : Hid (setV (x.sets.take (j + 1)) (v.vals.take (j + 1)) s.vals = setV (x.sets.take j) (v.vals.take j) s.vals) := by unfold Hid; rw [HST.out, inM_no (by omega), if_neg (by simp)]
          have hd : decide ((0 : Int) ≤ a) = false := decide_eq_false (by omega)
          clear p hnv
          go_wp2
          (try rw [← hai])
          go_roundw
          case rel => exact ⟨j + 1, by go_num, hlt, by rw [HNX.out]; exact HO.out⟩
          case measure => simp [intOf]; omega
        · have HNX : Hid (setV (x.sets.take (j + 1)) (v.vals.take (j + 1)) s.vals = setV (x.sets.take j) (v.vals.take j) s.vals) := by unfold Hid; rw [HST.out, inM_no (by omega), if_neg (by simp)]
          have hd : decide ((0 : Int) ≤ a) = true := decide_eq_true p.1
          have hd2 : decide (a < (s.vals.length : Int)) = false := decide_eq_false (by omega)
          clear p hnv
          go_wp2
          (try rw [← hai])
          go_roundw
          case rel => exact ⟨j + 1, by go_num, hlt, by rw [HNX.out]; exact HO.out⟩
          case measure => simp [intOf]; omega
        · obtain ⟨i, rfl, hin⟩ : ∃ i : Nat, a = (i : Int) ∧ i < s.vals.length := ⟨a.toNat, by omega, by omega⟩
          have HNX : Hid (setV (x.sets.take (j + 1)) (v.vals.take (j + 1)) s.vals = (setV (x.sets.take j) (v.vals.take j) s.vals).set i n) := by unfold Hid; rw [HST.out, if_pos (inM_iff.2 ⟨by omega, by omega⟩), Int.toNat_natCast]
          obtain ⟨uo, huo⟩ : ∃ uo, (setV (x.sets.take j) (v.vals.take j) s.vals)[i]? = some uo := ⟨_, List.getElem?_eq_getElem (by have := HLN.out; omega)⟩
          obtain ⟨g, hg, hgB, cg, fg, hst⟩ := HO.out.at huo
          have HSTO := Lib.hid ((hst n).grow HWC.out.1 (Below.refl _ _).drew)
          have hd : decide ((0 : Int) ≤ (i : Int)) = true := decide_eq_true p.1
          have hd2 : (i : Int) < (s.vals.length : Int) := p.2
          have hi0 : (0 : Int) ≤ (i : Int) := p.1
          have hjv : (j : Int) < (v.vals.length : Int) := by have := HVS.out; omega
          have hj0 : (0 : Int) ≤ (j : Int) := Int.natCast_nonneg _
          clear p hnv huo hst hgB
          go_upto_region 7 with fail
          refine startG (S := fun V => V.cell? ⟨W1.heap.size, 0, none⟩ = some (.slice ad0 s.vals.length s.vals.length) ∧ V.cell? ⟨W2.heap.size, 2, none⟩ = some (.slice ad v.vals.length cp) ∧ V.cell? ⟨b7, o7 + j, none⟩ = some (.int .i64 n)) (fun j => j == 9) (fun _ => false) (by kernel_rfl) ⟨m0, m2, z7⟩ (fun hHeld => ?_)
          refine takesG [0, 1, 2, 3, 4, 5, 6, 7, 8] (by kernel_rfl) (fun _ _ d _ _ h => by cases d <;> exact h) (by kernel_rfl) (by kernel_rfl) (by kernel_rfl) (by assumption) ?_
          repeat (first
            | (refine TakeSeq2.cons (v := ?_) rfl rfl (by rfl) ?_ ?_
               rotate_left
               · ((intro w hSw; go_simp) <;> (try with_reducible rfl))
               (try go_simp))
            | (refine TakeSeq2.pure (v := ?_) rfl rfl (by rfl) ?_ ?_
               rotate_left
               · ((intro w hSw; go_simp) <;> (try with_reducible rfl))
               (try go_simp))
            | (refine TakeSeq2.skip rfl (by rfl) ?_; (try go_simp)))
          refine TakeSeq2.nil ?_
          refine callG1 9 (by kernel_rfl) (by kernel_rfl) rfl (by rfl) ?_
          intro K hK
          go_simp
          refine hK.out _ _ (fun h => absurd h (by decide)) ?_
          clear hK K
          (try go_simp)
          refine doneG (by kernel_rfl) ?_
          go_wp2
          (try rw [← hai])
          (try rw [← hg])
          (try rw [← had])
          go_roundw
          case rel => exact ⟨j + 1, by go_num, hlt, by rw [HNX.out]; exact HSTO.out⟩
          case measure => simp [intOf]; omega
      · have hjn : j = x.sets.length := by omega
        subst hjn
        have hge' := nltI (Nat.not_lt.2 hge)
        obtain ⟨V0, hV0⟩ : ∃ l, setV x.sets v.vals s.vals = l := ⟨_, rfl⟩
        have HV0 := Lib.hid hV0
        have HO1 : Hid (OwnT wc wr W5.heap.size ad0 2 V0) := by
          have h1 := HO.out
          have e2 : v.vals.take x.sets.length = v.vals := by rw [← HVS.out, List.take_length]
          rw [List.take_length, e2, hV0] at h1; exact h1
        have HD3 : Hid (OwnI wr W5.heap.size ad3 3 s.did) := HO.out.own HC.out.2.2.1 HC.out.2.2.2.2.1
        have HD4 : Hid (OwnI wr W5.heap.size ad4 3 s.cnt) := HO.out.own HC.out.2.2.2.1 HC.out.2.2.2.2.2.1
        have HA3 : Hid (∀ a a' : Addr, ad3 = some a → ad0 = some a' → a'.block ≠ a.block) := fun a a' e e' => Ne.symm (HC.out.2.2.2.2.1 a' a e' e)
        have HA34 : Hid (∀ a a' : Addr, ad3 = some a → ad4 = some a' → a'.block ≠ a.block) := HC.out.2.2.2.2.2.2
        have HA4 : Hid (∀ a a' : Addr, ad4 = some a → ad0 = some a' → a'.block ≠ a.block) := fun a a' e e' => Ne.symm (HC.out.2.2.2.2.2.1 a' a e' e)
        have HA43 : Hid (∀ a a' : Addr, ad4 = some a → ad3 = some a' → a'.block ≠ a.block) := fun a a' e e' => Ne.symm (HC.out.2.2.2.2.2.2 a' a e' e)
        have HX3r := Lib.hid (HO.out.low HX3.out (by have := HWC.out; omega))
        have HX4r := Lib.hid (HO.out.low HX4.out (by have := HWC.out; omega))
        obtain ⟨dk, hdk⟩ : ∃ d, s.did[k]? = some d := ⟨_, List.getElem?_eq_getElem (by have := HLL.out; omega)⟩
        obtain ⟨ck, hck⟩ : ∃ d, s.cnt[k]? = some d := ⟨_, List.getElem?_eq_getElem (by have := HLL.out; omega)⟩
        have HDK := Lib.hid hdk
        have HCK := Lib.hid hck
        obtain ⟨g3, hg3, hgB3, cg3, fg3, hst3⟩ := (OwnT.refl HD3.out).at hdk
        have HST3 := Lib.hid (fun u' => (hst3 u').grow (by have := HWC.out; have := HO.out.2.1.size; omega) (Below.refl _ _).drew)
        have m3 := HSW.out.cell (i := 3) rfl
        have y0 := HMW.out.cell (i := 0) rfl
        have y1 := HMW.out.cell (i := 1) rfl
        have hkd : (k : Int) < (s.did.length : Int) := by have := HLL.out; omega
        have hkc : (k : Int) < (s.cnt.length : Int) := by have := HLL.out; omega
        have HG3 := Lib.hid hg3
        clear hV0 HO e3 hdk hck hst3 hgB3 hnv hj hge hg3
        rw [HG3.out] at m3
        go_upto_region 9 with fail
        go_cut [] (fun wx => Hid (OwnT wr wx W5.heap.size ad3 3 (s.did.set k (putZ dk v.user true))))
        case first =>
          refine startG (S := fun V => V.cell? ⟨W1.heap.size, 3, none⟩ = some (.slice (some ⟨g3, 0, none⟩) s.did.length s.did.length) ∧ V.cell? ⟨W2.heap.size, 0, none⟩ = some (.int .i64 (k : Int)) ∧ V.cell? ⟨W2.heap.size, 1, none⟩ = some (.int .i64 v.user) ∧ V.cell? ⟨g3, k, none⟩ = some (.int .i64 dk)) (fun j => j == 14) (fun _ => false) (by kernel_rfl) ⟨m3, y0, y1, cg3⟩ (fun hHeld => ?_)
          refine takesG [0, 1, 2, 3, 4, 5, 6, 7, 8, 9, 10, 11] (by kernel_rfl) (fun _ _ d _ _ h => by cases d <;> exact h) (by kernel_rfl) (by kernel_rfl) (by kernel_rfl) (by assumption) ?_
          repeat (first
            | (refine TakeSeq2.cons (v := ?_) rfl rfl (by rfl) ?_ ?_
               rotate_left
               · ((intro w hSw; go_simp) <;> (try with_reducible rfl))
               (try go_simp))
            | (refine TakeSeq2.pure (v := ?_) rfl rfl (by rfl) ?_ ?_
               rotate_left
               · ((intro w hSw; go_simp) <;> (try with_reducible rfl))
               (try go_simp))
            | (refine TakeSeq2.skip rfl (by rfl) ?_; (try go_simp)))
          refine TakeSeq2.nil ?_
          refine callG1 12 (by kernel_rfl) (by kernel_rfl) rfl (by rfl) ?_
          intro K hK
          go_simp
          go_at_call 83
          refine (with_any _ _ _).mono ?_
          rintro o w4 ⟨rfl, rfl⟩
          refine hK.out _ _ (fun _ => hHeld) ?_
          clear hK K
          (try go_simp)
          refine takesG [13] (by kernel_rfl) (fun _ _ d _ _ h => by cases d <;> exact h) (by kernel_rfl) (by kernel_rfl) (by kernel_rfl) (by assumption) ?_
          repeat (first
            | (refine TakeSeq2.cons (v := ?_) rfl rfl (by rfl) ?_ ?_
               rotate_left
               · ((intro w hSw; go_simp) <;> (try with_reducible rfl))
               (try go_simp))
            | (refine TakeSeq2.pure (v := ?_) rfl rfl (by rfl) ?_ ?_
               rotate_left
               · ((intro w hSw; go_simp) <;> (try with_reducible rfl))
               (try go_simp))
            | (refine TakeSeq2.skip rfl (by rfl) ?_; (try go_simp)))
          refine TakeSeq2.nil ?_
          refine callG1 14 (by kernel_rfl) (by kernel_rfl) rfl (by rfl) ?_
          intro K hK
          go_simp
          refine hK.out _ _ (fun h => absurd h (by decide)) ?_
          clear hK K
          (try go_simp)
          refine doneG (by kernel_rfl) ?_
          go_wp2_with fail
          go_meet
          exact HST3.out _
        case rest =>
          have HT9 := hcut
          have HS9 := Lib.hid (HT9.out.low HSW.out HLT.out)
          have HM9 := Lib.hid (HT9.out.low HMW.out (by have := HWC.out; omega))
          have HZ9 := Lib.hid (HT9.out.low HX3r.out (by have := HWC.out; omega))
          have HX9 := Lib.hid (HT9.out.low HX4r.out (by have := HWC.out; omega))
          have HO9 : Hid (OwnI wc W5.heap.size ad0 2 V0) := HT9.out.own HO1.out.1 HA3.out
          have HD9 : Hid (OwnI wc W5.heap.size ad4 3 s.cnt) := HT9.out.own HD4.out HA34.out
          have HB9 : Hid (Below w.heap.size w wc) := HBW.out.trans (HT9.out.2.1.mono (by have := HBW.out.size; have := HWC.out; have := HB1.out.size; omega))
          have e4 := HX9.out.cell (i := 4) rfl
          clear m3 y0 y1 cg3 fg3
          by_cases ht : (0 : Int) < x.times
          · obtain ⟨g4, hg4, hgB4, cg4, fg4, hst4⟩ := (OwnT.refl HD9.out).at HCK.out
            have HST4 := Lib.hid hst4
            have hn := HCN.out ht
            rw [List.getD_eq_getElem?_getD, HCK.out] at hn
            unfold N64 at hn
            change -9223372036854775808 ≤ ck + 1 ∧ ck + 1 ≤ 9223372036854775807 at hn
            have hw2 : IntKind.i64.wrap (ck + 1) = ck + 1 := IntWalk.i64_in _ hn
            have hw1 : wrap64 (ck + 1) = ck + 1 := by unfold wrap64; omega
            have m4 := HS9.out.cell (i := 4) rfl
            have y0 := HM9.out.cell (i := 0) rfl
            have HG4 := Lib.hid hg4
            have HTT := Lib.hid ht
            rw [hg4] at m4
            clear hst4 hgB4 hg4
            go_upto_region 11 with fail
            go_cut [] (fun wx => Hid (OwnT wc wx W5.heap.size ad4 3 (s.cnt.set k (ck + 1))))
            case first =>
              go_wp2_with fail
              go_meet
              exact HST4.out _
            case rest =>
              have HTA := hcut
              have HS5 := Lib.hid (HTA.out.low HS9.out HLT.out)
              have HZ5 := Lib.hid (HTA.out.low HZ9.out (by have := HWC.out; omega))
              have HO5 : Hid (OwnI wc W5.heap.size ad0 2 V0) := HTA.out.own HO9.out HA4.out
              have HD5 : Hid (OwnI wc W5.heap.size ad3 3 (s.did.set k (putZ dk v.user true))) := HTA.out.own HT9.out.1 HA43.out
              have HB5 : Hid (Below w.heap.size w wc) := HB9.out.trans (HTA.out.2.1.mono (by have := HBW.out.size; have := HWC.out; have := HB1.out.size; omega))
              clear e4 m4 y0 cg4 fg4 hn
              have m0 := HS5.out.cell (i := 0) rfl
              have u0 := HZ5.out.cell (i := 0) rfl
              have t0 := HZ5.out.free 0
              have m1 := HS5.out.cell (i := 1) rfl
              have u1 := HZ5.out.cell (i := 1) rfl
              have t1 := HZ5.out.free 1
              have m2 := HS5.out.cell (i := 2) rfl
              have u2 := HZ5.out.cell (i := 2) rfl
              have t2 := HZ5.out.free 2
              have m3 := HS5.out.cell (i := 3) rfl
              have u3 := HZ5.out.cell (i := 3) rfl
              have t3 := HZ5.out.free 3
              have m4 := HS5.out.cell (i := 4) rfl
              have u4 := HZ5.out.cell (i := 4) rfl
              have t4 := HZ5.out.free 4
              go_wp2
              have hp := HZ5.out.put5 (.slice ad0 s.vals.length s.vals.length) (.int .i64 s.opn) (.int .i64 s.dne) (.slice ad3 s.did.length s.did.length) (.slice ad4 s.cnt.length s.cnt.length)
              refine bodyPost_ret (v := .agg #[.slice ad0 s.vals.length s.vals.length, .int .i64 s.opn, .int .i64 s.dne, .slice ad3 s.did.length s.did.length, .slice ad4 s.cnt.length s.cnt.length]) (st_results hp rfl Tryz.f68 rfl) rfl ?_
              refine take_end HEX.out HEK.out (B := W5.heap.size) (b := W3.heap.size) ?_ ?_ ((Turned.refl HZ5.out).put5 (.slice ad0 s.vals.length s.vals.length) (.int .i64 s.opn) (.int .i64 s.dne) (.slice ad3 s.did.length s.did.length) (.slice ad4 s.cnt.length s.cnt.length)) (dk := dk) (C4 := s.cnt.set k (ck + 1)) ?_ HDK.out ?_ ?_ ?_ ?_ ?_
              · have := HBW.out.size; have := HWC.out; have := HB1.out.size; omega
              · have := HWC.out; omega
              · rw [HV0.out]; exact HO5.out
              · exact HD5.out
              · exact HTA.out.1
              · exact (by rw [if_pos HTT.out, List.getD_eq_getElem?_getD, HCK.out]; rfl)
              · have := HLL.out; exact ⟨by omega, by omega, by omega⟩
              · exact below_put5 (HB5.out) (by have := HWC.out; have := HB1.out.size; omega) _ _ _ _ _
          · have ht' : ¬ (0 : Int) < x.times := by omega
            have HTT := Lib.hid ht'
            have HS5 := Lib.hid HS9.out
            have HZ5 := Lib.hid HZ9.out
            have m0 := HS5.out.cell (i := 0) rfl
            have u0 := HZ5.out.cell (i := 0) rfl
            have t0 := HZ5.out.free 0
            have m1 := HS5.out.cell (i := 1) rfl
            have u1 := HZ5.out.cell (i := 1) rfl
            have t1 := HZ5.out.free 1
            have m2 := HS5.out.cell (i := 2) rfl
            have u2 := HZ5.out.cell (i := 2) rfl
            have t2 := HZ5.out.free 2
            have m3 := HS5.out.cell (i := 3) rfl
            have u3 := HZ5.out.cell (i := 3) rfl
            have t3 := HZ5.out.free 3
            have m4 := HS5.out.cell (i := 4) rfl
            have u4 := HZ5.out.cell (i := 4) rfl
            have t4 := HZ5.out.free 4
            go_wp2
            have hp := HZ5.out.put5 (.slice ad0 s.vals.length s.vals.length) (.int .i64 s.opn) (.int .i64 s.dne) (.slice ad3 s.did.length s.did.length) (.slice ad4 s.cnt.length s.cnt.length)
            refine bodyPost_ret (v := .agg #[.slice ad0 s.vals.length s.vals.length, .int .i64 s.opn, .int .i64 s.dne, .slice ad3 s.did.length s.did.length, .slice ad4 s.cnt.length s.cnt.length]) (st_results hp rfl Tryz.f68 rfl) rfl ?_
            refine take_end HEX.out HEK.out (B := W5.heap.size) (b := W3.heap.size) ?_ ?_ ((Turned.refl HZ5.out).put5 (.slice ad0 s.vals.length s.vals.length) (.int .i64 s.opn) (.int .i64 s.dne) (.slice ad3 s.did.length s.did.length) (.slice ad4 s.cnt.length s.cnt.length)) (dk := dk) (C4 := s.cnt) ?_ HDK.out ?_ ?_ ?_ ?_ ?_
            · have := HBW.out.size; have := HWC.out; have := HB1.out.size; omega
            · have := HWC.out; omega
            · rw [HV0.out]; exact HO9.out
            · exact HT9.out.1
            · exact HD9.out
            · exact (by rw [if_neg (by have := HTT.out; omega)])
            · have := HLL.out; exact ⟨by omega, by omega, by omega⟩
            · exact below_put5 (HB9.out) (by have := HWC.out; have := HB1.out.size; omega) _ _ _ _ _
end Go.Proofs.YtadjnfpomjopkaaGreat
