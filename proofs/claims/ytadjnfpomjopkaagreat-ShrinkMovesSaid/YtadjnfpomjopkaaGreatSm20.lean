/- state.Start (printed by gen_sta.py). step.Begin (printed by gen_beg.py). -/
import Derived.Test.YtadjnfpomjopkaaGreatSm19

namespace Go.Proofs.YtadjnfpomjopkaaGreat
open Go.RowKit
section
variable {P : Program} {ops : Array Oper} {Q : Exit → Act → World → Prop} {S : World → Prop} {md : Region.Mode}
/-- three that may come up -/
theorem callH3 (i j k : Nat) {fuel : Nat} {listed : Array Bool} {a : Act} {w : World} {o o' o'' : Oper} (hr : (Region.ready md ops listed == [i, j, k]) = true) (hf : Nat.ble 1 fuel = true) (ho : ops[i]? = some o) (hw : Region.wanted o (yielded ops a.tmps) = true)
    (ho' : ops[j]? = some o') (hw' : Region.wanted o' (yielded ops a.tmps) = true) (ho'' : ops[k]? = some o'') (hw'' : Region.wanted o'' (yielded ops a.tmps) = true)
    (h : ∀ K' : Act → World → Prop, Shut (∀ a w, S w → (S w → wpAnyH P md ops Q S (fuel - 1) (listed.setIfInBounds i true) a w) → K' a w) → Oper.wp P o a w K' Q)
    (h' : ∀ K' : Act → World → Prop, Shut (∀ a w, S w → (S w → wpAnyH P md ops Q S (fuel - 1) (listed.setIfInBounds j true) a w) → K' a w) → Oper.wp P o' a w K' Q)
    (h'' : ∀ K' : Act → World → Prop, Shut (∀ a w, S w → (S w → wpAnyH P md ops Q S (fuel - 1) (listed.setIfInBounds k true) a w) → K' a w) → Oper.wp P o'' a w K' Q) : wpAnyH P md ops Q S fuel listed a w := by
  cases fuel with
  | zero => cases hf
  | succ fuel =>
    refine wpAnyH_ready (rs := [i, j, k]) (by simpa using hr) (by simp) (AllReadyH.cons ho (fun K' hK => ?_) (AllReadyH.cons ho' (fun K' hK => ?_) (AllReadyH.cons ho'' (fun K' hK => ?_) AllReadyH.nil)))
    · rw [if_pos hw]; exact h K' hK
    · rw [if_pos hw']; exact h' K' hK
    · rw [if_pos hw'']; exact h'' K' hK
end
theorem OwnI.made {w : World} {g n : Nat} {t : TypeId} (h : Blk w g (madeCells #[.int .i64 0] n) t) (hn : n ≤ 1000000) : OwnI w g (some ⟨g, 0, none⟩) t (List.replicate n 0) := by
  refine .inr ⟨g, _, rfl, Nat.le_refl _, h, by simp [size_madeCells], by simp; unfold maxLen; omega, ?_⟩
  rw [List.length_replicate, List.take_of_length_le (by simp [size_madeCells])]
  apply List.ext_getElem?
  intro i
  simp [madeCells, ints, List.getElem?_replicate, Nat.mod_one]
  try (split <;> simp_all)
theorem RowE.caps {α : Type} {E : ElE α} {k : Nat} {w : World} {ad : Option Addr} {n cap : Nat} {T : List α} (h : RowE E k w (.slice ad n cap) T) : (ad = none → cap = 0) ∧ T.length ≤ cap ∧ cap ≤ maxLen := by
  obtain ⟨ad', cap', e, hc, _⟩ := h
  simp only [Value.slice.injEq] at e
  obtain ⟨rfl, -, rfl⟩ := e
  exact hc
theorem OwnI.turn {V W : World} {b base : Nat} {cs : Array Value} {t u : TypeId} {ad : Option Addr} {l : List Int} (h : OwnI V base ad t l) (hT : Turned V W b cs u) (hb : b < base) : OwnI W base ad t l := by
  rcases h with h | ⟨g, cur, ha, h1, hg, h2⟩
  · exact .inl h
  · exact .inr ⟨g, cur, ha, h1, hT.blk hg (by omega), h2⟩
theorem OwnI.rep {w : World} {g n : Nat} (h : OwnI w g (some ⟨g, 0, none⟩) 3 (List.replicate n 0)) (hn : n ≤ 1000000) : RowE intE 1 w (.slice (some ⟨g, 0, none⟩) n n) (List.replicate n 0) := by
  have := h.row n (by simp) (by unfold maxLen; omega) (fun e => by cases e)
  simpa using this
/-- a state's rows lie at blocks from B on -/
def StA (B : Nat) (r : Stm) (s : Sta) : Prop := (s.vals = [] ∨ ∃ a : Addr, r.a0 = some a ∧ B ≤ a.block) ∧ (s.did = [] ∨ ∃ a : Addr, r.a3 = some a ∧ B ≤ a.block) ∧ (s.cnt = [] ∨ ∃ a : Addr, r.a4 = some a ∧ B ≤ a.block)
theorem StA.mono {B C : Nat} {r : Stm} {s : Sta} (h : StA B r s) (hC : C ≤ B) : StA C r s := by
  obtain ⟨h0, h3, h4⟩ := h
  refine ⟨?_, ?_, ?_⟩
  · rcases h0 with h | ⟨a, e, h⟩
    · exact .inl h
    · exact .inr ⟨a, e, by omega⟩
  · rcases h3 with h | ⟨a, e, h⟩
    · exact .inl h
    · exact .inr ⟨a, e, by omega⟩
  · rcases h4 with h | ⟨a, e, h⟩
    · exact .inl h
    · exact .inr ⟨a, e, by omega⟩
theorem OwnI.lies {w : World} {base B : Nat} {ad : Option Addr} {t : TypeId} {l : List Int} (h : OwnI w base ad t l) (hB : B ≤ base) : l = [] ∨ ∃ a : Addr, ad = some a ∧ B ≤ a.block := by
  rcases h with h | ⟨g, cur, ha, h1, _⟩
  · exact .inl h.1
  · exact .inr ⟨_, ha, by show B ≤ g; omega⟩
theorem RowE.turn {V W : World} {b B n k : Nat} {cs : Array Value} {t : TypeId} {ad : Option Addr} {l : List Int} (h : RowE intE 1 V (.slice ad n k) l) (hl : l = [] ∨ ∃ a : Addr, ad = some a ∧ B ≤ a.block) (hT : Turned V W b cs t) (hb : b < B) : RowE intE 1 W (.slice ad n k) l := by
  obtain ⟨ad', cap', e, hc, h⟩ := h
  refine ⟨ad', cap', e, hc, ?_⟩
  rcases h with h | ⟨g, off, ha, hg, hx⟩
  · exact .inl h
  rcases hl with h | ⟨a, ea, hB⟩
  · exact .inl h
  simp only [Value.slice.injEq] at e
  have hag : a = ⟨g, off, none⟩ := by have := e.1; rw [ea, ha] at this; exact Option.some.inj this
  subst hag
  have hne : g ≠ b := by have : B ≤ g := hB; omega
  refine .inr ⟨g, off, ha, Nat.lt_of_lt_of_le hg hT.2.1.size, fun i a hi => ?_⟩
  obtain ⟨cs', h1, h2, h3⟩ := hx i a hi
  exact ⟨cs', h1, h2, fun j u hj => (hT.cell hne hg).trans (h3 j u hj)⟩
theorem StQ.turn {V W : World} {b B : Nat} {cs : Array Value} {t : TypeId} {r : Stm} {s : Sta} (h : StQ V r s) (hA : StA B r s) (hT : Turned V W b cs t) (hb : b < B) : StQ W r s :=
  ⟨RowE.turn h.vals hA.1 hT hb, RowE.turn h.did hA.2.1 hT hb, RowE.turn h.cnt hA.2.2 hT hb⟩
theorem start_end {w W1 V V' : World} {M : Mdl} {adc : Option Addr} {cpc gc g3 g4 : Nat} {cs : Array Value} {u : TypeId} (hB1 : Below w.heap.size w W1) (hbz : Below W1.heap.size W1 V) (hT : Turned V V' W1.heap.size cs u)
    (hrc : OwnI V gc adc 2 M.inits) (hcp : (adc = none → cpc = 0) ∧ M.inits.length ≤ cpc ∧ cpc ≤ maxLen) (hgc : W1.heap.size < gc)
    (h3 : OwnI V g3 (some ⟨g3, 0, none⟩) 3 (List.replicate M.events.length 0)) (hg3 : W1.heap.size < g3) (h4 : OwnI V g4 (some ⟨g4, 0, none⟩) 3 (List.replicate M.events.length 0)) (hg4 : W1.heap.size < g4) (hn : M.events.length ≤ 1000000) :
    (∃ r, Ending.returned (Value.agg #[.slice adc M.inits.length cpc, .int .i64 0, .int .i64 0, .slice (some ⟨g3, 0, none⟩) M.events.length M.events.length, .slice (some ⟨g4, 0, none⟩) M.events.length M.events.length]) = .returned (.agg (stC r (startS M))) ∧ StQ V' r (startS M) ∧ StA w.heap.size r (startS M)) ∧ Below w.heap.size w V' := by
  refine ⟨⟨⟨adc, cpc, some ⟨g3, 0, none⟩, M.events.length, some ⟨g4, 0, none⟩, M.events.length⟩, by simp [stC, startS], ?_, ?_⟩, hB1.trans ((hbz.trans hT.2.1).mono hB1.size)⟩
  have e3 := (h3.turn hT hg3).rep hn
  have e4 := (h4.turn hT hg4).rep hn
  · unfold StQ startS
    simp only [List.length_replicate]
    exact ⟨(hrc.turn hT hgc).row cpc hcp.2.1 hcp.2.2 hcp.1, e3, e4⟩
  · have := hB1.size
    exact ⟨hrc.lies (by omega), h3.lies (by omega), h4.lies (by omega)⟩

set_option maxRecDepth 100000 in
set_option maxHeartbeats 8000000 in
theorem startQ {w : World} {q : Mem} {M : Mdl} (hm : MdQ w q M) (hi : M.inits.length ≤ 1000) (hev : M.events.length ≤ 1000000) :
    Calls Tryz.prog 65 #[.agg (mdC q M)] w fun e w' => (∃ r, e = .returned (.agg (stC r (startS M))) ∧ StQ w' r (startS M) ∧ StA w.heap.size r (startS M)) ∧ Below w.heap.size w w' := by
  obtain ⟨i1, hi1, hy0, hy1, hy2⟩ := info_parts info_int
  have mk := fun (w : World) => run_makeSlice (P := Tryz.prog) w 42 3 i1 _ Tryz.underlying42 hi1 hy0 .i64 .i64 (M.events.length : Int) (M.events.length : Int) (by omega) (Int.le_refl _) (by rw [hy1]; simp; omega) (by rw [hy2]; omega) (by omega)
  simp only [Int.toNat_natCast, hy1, Nat.mul_one] at mk
  obtain ⟨W1, h1, HB1, HM, HF⟩ := boxM hm
  obtain ⟨W2, h2, hb2, x2⟩ := box1 W1 #[.slice none 0 0, .int .i64 0, .int .i64 0, .slice none 0 0, .slice none 0 0] 44
  have hs2 : W2.heap.size = W1.heap.size + 1 := by rw [← h2]; simp
  have HX := Lib.hid x2
  have HSZ := Lib.hid hs2
  have HB2 := Lib.hid hb2
  have HCL : Hid (∀ V, Below W1.heap.size W1 V → Calls Tryz.prog 77 #[.slice q.a1 M.inits.length q.k1] V fun e w' => ∃ v', e = .returned v' ∧ w'.ownsRow V.heap.size 2 1 v' M.inits.length (ints M.inits) ∧ Below V.heap.size V w') := fun V hV => clone64_any (Reads.of_rowE (HM.out.below hV).inits) hi
  have HSF : Hid (∀ V, Below W1.heap.size W1 V → MdB V w.heap.size q M) := HF
  unfold mdC at h1 ⊢
  clear hm hb2 x2 hs2 hi HF
  go_enter Tryz.func65, Tryz.ntmps65
  go_upto_region 1 with fail
  have hbz : Below W1.heap.size W1 W2.drew := HB2.out.drew
  refine startH (S := fun V => MdB V w.heap.size q M) (by kernel_rfl) (HSF.out _ hbz) (fun hHeld => ?_)
  have HXR := HX.out.drew
  generalize W2.drew = D at hbz hHeld HXR ⊢
  refine takesH [0, 1, 3, 4, 5, 7, 8, 9] (by kernel_rfl) (fun _ _ d _ _ h => by cases d <;> exact h) (by kernel_rfl) (by kernel_rfl) (by assumption) ?_
  repeat (first
    | (refine TakeSeq.cons (v := ?_) rfl (by rfl) ?_ ?_
       rotate_left
       · ((intro w hSw; unfold MdB at hSw; go_simp) <;> (try with_reducible rfl))
       (try go_simp))
    | (refine TakeSeq.skip rfl (by rfl) ?_; (try go_simp)))
  refine TakeSeq.nil ?_
  refine callH3 2 6 10 (by kernel_rfl) (by kernel_rfl) rfl (by rfl) rfl (by rfl) rfl (by rfl) ?_ ?_ ?_
  · intro K hK
    go_simp
    go_at_call 77
    have HBV := hbz
    with_reducible refine (HCL.out _ HBV).mono ?_
    rintro e1 V1 ⟨vc, rfl, hoc, hbn⟩
    obtain ⟨adc, cpc, ec⟩ := owns_len hoc
    subst ec
    have hcp := RowE.caps (rowI_of hoc)
    have hrc := OwnI.of hoc
    have hgc := HXR.lt
    have hbz := hbz.trans (hbn.mono hbz.size)
    replace HXR := HXR.keep hbn
    refine hK.out _ _ (HSF.out _ hbz) (fun hHeld => ?_)
    clear hK K hbn
    (try go_simp)
    refine callH2 6 10 (by kernel_rfl) (by kernel_rfl) rfl (by rfl) rfl (by rfl) ?_ ?_
    · obtain ⟨V2, hv2, hbn, xn⟩ := box1 V1 (madeCells #[.int .i64 0] M.events.length) 3
      have ho6 := OwnI.made xn (by omega)
      have hg6 := HXR.lt
      intro K hK
      go_simp
      have hbz : Below W1.heap.size W1 (V2) := hbz.trans (hbn.mono hbz.size)
      replace HXR := HXR.keep hbn
      replace hrc := hrc.keep hbn
      refine hK.out _ _ (HSF.out _ hbz) (fun hHeld => ?_)
      clear hK K hbn xn
      (try go_simp)
      refine callH 10 (by kernel_rfl) (by kernel_rfl) rfl (by rfl) ?_
      · obtain ⟨V3, hv3, hbn, xn⟩ := box1 V2 (madeCells #[.int .i64 0] M.events.length) 3
        have ho10 := OwnI.made xn (by omega)
        have hg10 := HXR.lt
        intro K hK
        go_simp
        have hbz : Below W1.heap.size W1 (V3) := hbz.trans (hbn.mono hbz.size)
        replace HXR := HXR.keep hbn
        replace hrc := hrc.keep hbn
        replace ho6 := ho6.keep hbn
        refine hK.out _ _ (HSF.out _ hbz) (fun hHeld => ?_)
        clear hK K hbn xn
        (try go_simp)
        refine takesH [11] (by kernel_rfl) (fun _ _ d _ _ h => by cases d <;> exact h) (by kernel_rfl) (by kernel_rfl) (by assumption) ?_
        repeat (first
          | (refine TakeSeq.cons (v := ?_) rfl (by rfl) ?_ ?_
             rotate_left
             · ((intro w hSw; unfold MdB at hSw; go_simp) <;> (try with_reducible rfl))
             (try go_simp))
          | (refine TakeSeq.skip rfl (by rfl) ?_; (try go_simp)))
        refine TakeSeq.nil ?_
        have u0 := HXR.cell (i := 0) rfl
        have t0 := HXR.free 0
        have u1 := HXR.cell (i := 1) rfl
        have t1 := HXR.free 1
        have u2 := HXR.cell (i := 2) rfl
        have t2 := HXR.free 2
        have u3 := HXR.cell (i := 3) rfl
        have t3 := HXR.free 3
        have u4 := HXR.cell (i := 4) rfl
        have t4 := HXR.free 4
        refine callH 12 (by kernel_rfl) (by kernel_rfl) rfl (by rfl) ?_
        intro K hK
        go_simp
        refine hK.out _ _ (HSF.out _ (below_put5 hbz (Nat.le_refl _) _ _ _ _ _)) (fun hHeld => ?_)
        clear hK K
        (try go_simp)
        refine doneH (by kernel_rfl) ?_
        go_wp2
        have hp := HXR.put5 (.slice adc M.inits.length cpc) (.int .i64 0) (.int .i64 0) (.slice (some ⟨V1.heap.size, 0, none⟩) M.events.length M.events.length) (.slice (some ⟨V2.heap.size, 0, none⟩) M.events.length M.events.length)
        refine bodyPost_ret (v := .agg #[.slice adc M.inits.length cpc, .int .i64 0, .int .i64 0, .slice (some ⟨V1.heap.size, 0, none⟩) M.events.length M.events.length, .slice (some ⟨V2.heap.size, 0, none⟩) M.events.length M.events.length]) (st_results hp rfl Tryz.f65 rfl) rfl ?_
        exact start_end HB1.out hbz ((Turned.refl HXR).put5 (.slice adc M.inits.length cpc) (.int .i64 0) (.int .i64 0) (.slice (some ⟨V1.heap.size, 0, none⟩) M.events.length M.events.length) (.slice (some ⟨V2.heap.size, 0, none⟩) M.events.length M.events.length)) hrc hcp hgc ho6 hg6 ho10 hg10 (by omega)
    · obtain ⟨V4, hv4, hbn, xn⟩ := box1 V1 (madeCells #[.int .i64 0] M.events.length) 3
      have ho10 := OwnI.made xn (by omega)
      have hg10 := HXR.lt
      intro K hK
      go_simp
      have hbz : Below W1.heap.size W1 (V4) := hbz.trans (hbn.mono hbz.size)
      replace HXR := HXR.keep hbn
      replace hrc := hrc.keep hbn
      refine hK.out _ _ (HSF.out _ hbz) (fun hHeld => ?_)
      clear hK K hbn xn
      (try go_simp)
      refine callH 6 (by kernel_rfl) (by kernel_rfl) rfl (by rfl) ?_
      · obtain ⟨V5, hv5, hbn, xn⟩ := box1 V4 (madeCells #[.int .i64 0] M.events.length) 3
        have ho6 := OwnI.made xn (by omega)
        have hg6 := HXR.lt
        intro K hK
        go_simp
        have hbz : Below W1.heap.size W1 (V5) := hbz.trans (hbn.mono hbz.size)
        replace HXR := HXR.keep hbn
        replace hrc := hrc.keep hbn
        replace ho10 := ho10.keep hbn
        refine hK.out _ _ (HSF.out _ hbz) (fun hHeld => ?_)
        clear hK K hbn xn
        (try go_simp)
        refine takesH [11] (by kernel_rfl) (fun _ _ d _ _ h => by cases d <;> exact h) (by kernel_rfl) (by kernel_rfl) (by assumption) ?_
        repeat (first
          | (refine TakeSeq.cons (v := ?_) rfl (by rfl) ?_ ?_
             rotate_left
             · ((intro w hSw; unfold MdB at hSw; go_simp) <;> (try with_reducible rfl))
             (try go_simp))
          | (refine TakeSeq.skip rfl (by rfl) ?_; (try go_simp)))
        refine TakeSeq.nil ?_
        have u0 := HXR.cell (i := 0) rfl
        have t0 := HXR.free 0
        have u1 := HXR.cell (i := 1) rfl
        have t1 := HXR.free 1
        have u2 := HXR.cell (i := 2) rfl
        have t2 := HXR.free 2
        have u3 := HXR.cell (i := 3) rfl
        have t3 := HXR.free 3
        have u4 := HXR.cell (i := 4) rfl
        have t4 := HXR.free 4
        refine callH 12 (by kernel_rfl) (by kernel_rfl) rfl (by rfl) ?_
        intro K hK
        go_simp
        refine hK.out _ _ (HSF.out _ (below_put5 hbz (Nat.le_refl _) _ _ _ _ _)) (fun hHeld => ?_)
        clear hK K
        (try go_simp)
        refine doneH (by kernel_rfl) ?_
        go_wp2
        have hp := HXR.put5 (.slice adc M.inits.length cpc) (.int .i64 0) (.int .i64 0) (.slice (some ⟨V4.heap.size, 0, none⟩) M.events.length M.events.length) (.slice (some ⟨V1.heap.size, 0, none⟩) M.events.length M.events.length)
        refine bodyPost_ret (v := .agg #[.slice adc M.inits.length cpc, .int .i64 0, .int .i64 0, .slice (some ⟨V4.heap.size, 0, none⟩) M.events.length M.events.length, .slice (some ⟨V1.heap.size, 0, none⟩) M.events.length M.events.length]) (st_results hp rfl Tryz.f65 rfl) rfl ?_
        exact start_end HB1.out hbz ((Turned.refl HXR).put5 (.slice adc M.inits.length cpc) (.int .i64 0) (.int .i64 0) (.slice (some ⟨V4.heap.size, 0, none⟩) M.events.length M.events.length) (.slice (some ⟨V1.heap.size, 0, none⟩) M.events.length M.events.length)) hrc hcp hgc ho6 hg6 ho10 hg10 (by omega)
  · obtain ⟨V6, hv6, hbn, xn⟩ := box1 D (madeCells #[.int .i64 0] M.events.length) 3
    have ho6 := OwnI.made xn (by omega)
    have hg6 := HXR.lt
    intro K hK
    go_simp
    have hbz : Below W1.heap.size W1 (V6) := hbz.trans (hbn.mono hbz.size)
    replace HXR := HXR.keep hbn
    refine hK.out _ _ (HSF.out _ hbz) (fun hHeld => ?_)
    clear hK K hbn xn
    (try go_simp)
    refine callH2 2 10 (by kernel_rfl) (by kernel_rfl) rfl (by rfl) rfl (by rfl) ?_ ?_
    · intro K hK
      go_simp
      go_at_call 77
      have HBV := hbz
      with_reducible refine (HCL.out _ HBV).mono ?_
      rintro e7 V7 ⟨vc, rfl, hoc, hbn⟩
      obtain ⟨adc, cpc, ec⟩ := owns_len hoc
      subst ec
      have hcp := RowE.caps (rowI_of hoc)
      have hrc := OwnI.of hoc
      have hgc := HXR.lt
      have hbz := hbz.trans (hbn.mono hbz.size)
      replace HXR := HXR.keep hbn
      replace ho6 := ho6.keep hbn
      refine hK.out _ _ (HSF.out _ hbz) (fun hHeld => ?_)
      clear hK K hbn
      (try go_simp)
      refine callH 10 (by kernel_rfl) (by kernel_rfl) rfl (by rfl) ?_
      · obtain ⟨V8, hv8, hbn, xn⟩ := box1 V7 (madeCells #[.int .i64 0] M.events.length) 3
        have ho10 := OwnI.made xn (by omega)
        have hg10 := HXR.lt
        intro K hK
        go_simp
        have hbz : Below W1.heap.size W1 (V8) := hbz.trans (hbn.mono hbz.size)
        replace HXR := HXR.keep hbn
        replace ho6 := ho6.keep hbn
        replace hrc := hrc.keep hbn
        refine hK.out _ _ (HSF.out _ hbz) (fun hHeld => ?_)
        clear hK K hbn xn
        (try go_simp)
        refine takesH [11] (by kernel_rfl) (fun _ _ d _ _ h => by cases d <;> exact h) (by kernel_rfl) (by kernel_rfl) (by assumption) ?_
        repeat (first
          | (refine TakeSeq.cons (v := ?_) rfl (by rfl) ?_ ?_
             rotate_left
             · ((intro w hSw; unfold MdB at hSw; go_simp) <;> (try with_reducible rfl))
             (try go_simp))
          | (refine TakeSeq.skip rfl (by rfl) ?_; (try go_simp)))
        refine TakeSeq.nil ?_
        have u0 := HXR.cell (i := 0) rfl
        have t0 := HXR.free 0
        have u1 := HXR.cell (i := 1) rfl
        have t1 := HXR.free 1
        have u2 := HXR.cell (i := 2) rfl
        have t2 := HXR.free 2
        have u3 := HXR.cell (i := 3) rfl
        have t3 := HXR.free 3
        have u4 := HXR.cell (i := 4) rfl
        have t4 := HXR.free 4
        refine callH 12 (by kernel_rfl) (by kernel_rfl) rfl (by rfl) ?_
        intro K hK
        go_simp
        refine hK.out _ _ (HSF.out _ (below_put5 hbz (Nat.le_refl _) _ _ _ _ _)) (fun hHeld => ?_)
        clear hK K
        (try go_simp)
        refine doneH (by kernel_rfl) ?_
        go_wp2
        have hp := HXR.put5 (.slice adc M.inits.length cpc) (.int .i64 0) (.int .i64 0) (.slice (some ⟨D.heap.size, 0, none⟩) M.events.length M.events.length) (.slice (some ⟨V7.heap.size, 0, none⟩) M.events.length M.events.length)
        refine bodyPost_ret (v := .agg #[.slice adc M.inits.length cpc, .int .i64 0, .int .i64 0, .slice (some ⟨D.heap.size, 0, none⟩) M.events.length M.events.length, .slice (some ⟨V7.heap.size, 0, none⟩) M.events.length M.events.length]) (st_results hp rfl Tryz.f65 rfl) rfl ?_
        exact start_end HB1.out hbz ((Turned.refl HXR).put5 (.slice adc M.inits.length cpc) (.int .i64 0) (.int .i64 0) (.slice (some ⟨D.heap.size, 0, none⟩) M.events.length M.events.length) (.slice (some ⟨V7.heap.size, 0, none⟩) M.events.length M.events.length)) hrc hcp hgc ho6 hg6 ho10 hg10 (by omega)
    · obtain ⟨V9, hv9, hbn, xn⟩ := box1 V6 (madeCells #[.int .i64 0] M.events.length) 3
      have ho10 := OwnI.made xn (by omega)
      have hg10 := HXR.lt
      intro K hK
      go_simp
      have hbz : Below W1.heap.size W1 (V9) := hbz.trans (hbn.mono hbz.size)
      replace HXR := HXR.keep hbn
      replace ho6 := ho6.keep hbn
      refine hK.out _ _ (HSF.out _ hbz) (fun hHeld => ?_)
      clear hK K hbn xn
      (try go_simp)
      refine callH 2 (by kernel_rfl) (by kernel_rfl) rfl (by rfl) ?_
      · intro K hK
        go_simp
        go_at_call 77
        have HBV := hbz
        with_reducible refine (HCL.out _ HBV).mono ?_
        rintro e10 V10 ⟨vc, rfl, hoc, hbn⟩
        obtain ⟨adc, cpc, ec⟩ := owns_len hoc
        subst ec
        have hcp := RowE.caps (rowI_of hoc)
        have hrc := OwnI.of hoc
        have hgc := HXR.lt
        have hbz := hbz.trans (hbn.mono hbz.size)
        replace HXR := HXR.keep hbn
        replace ho6 := ho6.keep hbn
        replace ho10 := ho10.keep hbn
        refine hK.out _ _ (HSF.out _ hbz) (fun hHeld => ?_)
        clear hK K hbn
        (try go_simp)
        refine takesH [11] (by kernel_rfl) (fun _ _ d _ _ h => by cases d <;> exact h) (by kernel_rfl) (by kernel_rfl) (by assumption) ?_
        repeat (first
          | (refine TakeSeq.cons (v := ?_) rfl (by rfl) ?_ ?_
             rotate_left
             · ((intro w hSw; unfold MdB at hSw; go_simp) <;> (try with_reducible rfl))
             (try go_simp))
          | (refine TakeSeq.skip rfl (by rfl) ?_; (try go_simp)))
        refine TakeSeq.nil ?_
        have u0 := HXR.cell (i := 0) rfl
        have t0 := HXR.free 0
        have u1 := HXR.cell (i := 1) rfl
        have t1 := HXR.free 1
        have u2 := HXR.cell (i := 2) rfl
        have t2 := HXR.free 2
        have u3 := HXR.cell (i := 3) rfl
        have t3 := HXR.free 3
        have u4 := HXR.cell (i := 4) rfl
        have t4 := HXR.free 4
        refine callH 12 (by kernel_rfl) (by kernel_rfl) rfl (by rfl) ?_
        intro K hK
        go_simp
        refine hK.out _ _ (HSF.out _ (below_put5 hbz (Nat.le_refl _) _ _ _ _ _)) (fun hHeld => ?_)
        clear hK K
        (try go_simp)
        refine doneH (by kernel_rfl) ?_
        go_wp2
        have hp := HXR.put5 (.slice adc M.inits.length cpc) (.int .i64 0) (.int .i64 0) (.slice (some ⟨D.heap.size, 0, none⟩) M.events.length M.events.length) (.slice (some ⟨V6.heap.size, 0, none⟩) M.events.length M.events.length)
        refine bodyPost_ret (v := .agg #[.slice adc M.inits.length cpc, .int .i64 0, .int .i64 0, .slice (some ⟨D.heap.size, 0, none⟩) M.events.length M.events.length, .slice (some ⟨V6.heap.size, 0, none⟩) M.events.length M.events.length]) (st_results hp rfl Tryz.f65 rfl) rfl ?_
        exact start_end HB1.out hbz ((Turned.refl HXR).put5 (.slice adc M.inits.length cpc) (.int .i64 0) (.int .i64 0) (.slice (some ⟨D.heap.size, 0, none⟩) M.events.length M.events.length) (.slice (some ⟨V6.heap.size, 0, none⟩) M.events.length M.events.length)) hrc hcp hgc ho6 hg6 ho10 hg10 (by omega)
  · obtain ⟨V11, hv11, hbn, xn⟩ := box1 D (madeCells #[.int .i64 0] M.events.length) 3
    have ho10 := OwnI.made xn (by omega)
    have hg10 := HXR.lt
    intro K hK
    go_simp
    have hbz : Below W1.heap.size W1 (V11) := hbz.trans (hbn.mono hbz.size)
    replace HXR := HXR.keep hbn
    refine hK.out _ _ (HSF.out _ hbz) (fun hHeld => ?_)
    clear hK K hbn xn
    (try go_simp)
    refine callH2 2 6 (by kernel_rfl) (by kernel_rfl) rfl (by rfl) rfl (by rfl) ?_ ?_
    · intro K hK
      go_simp
      go_at_call 77
      have HBV := hbz
      with_reducible refine (HCL.out _ HBV).mono ?_
      rintro e12 V12 ⟨vc, rfl, hoc, hbn⟩
      obtain ⟨adc, cpc, ec⟩ := owns_len hoc
      subst ec
      have hcp := RowE.caps (rowI_of hoc)
      have hrc := OwnI.of hoc
      have hgc := HXR.lt
      have hbz := hbz.trans (hbn.mono hbz.size)
      replace HXR := HXR.keep hbn
      replace ho10 := ho10.keep hbn
      refine hK.out _ _ (HSF.out _ hbz) (fun hHeld => ?_)
      clear hK K hbn
      (try go_simp)
      refine callH 6 (by kernel_rfl) (by kernel_rfl) rfl (by rfl) ?_
      · obtain ⟨V13, hv13, hbn, xn⟩ := box1 V12 (madeCells #[.int .i64 0] M.events.length) 3
        have ho6 := OwnI.made xn (by omega)
        have hg6 := HXR.lt
        intro K hK
        go_simp
        have hbz : Below W1.heap.size W1 (V13) := hbz.trans (hbn.mono hbz.size)
        replace HXR := HXR.keep hbn
        replace ho10 := ho10.keep hbn
        replace hrc := hrc.keep hbn
        refine hK.out _ _ (HSF.out _ hbz) (fun hHeld => ?_)
        clear hK K hbn xn
        (try go_simp)
        refine takesH [11] (by kernel_rfl) (fun _ _ d _ _ h => by cases d <;> exact h) (by kernel_rfl) (by kernel_rfl) (by assumption) ?_
        repeat (first
          | (refine TakeSeq.cons (v := ?_) rfl (by rfl) ?_ ?_
             rotate_left
             · ((intro w hSw; unfold MdB at hSw; go_simp) <;> (try with_reducible rfl))
             (try go_simp))
          | (refine TakeSeq.skip rfl (by rfl) ?_; (try go_simp)))
        refine TakeSeq.nil ?_
        have u0 := HXR.cell (i := 0) rfl
        have t0 := HXR.free 0
        have u1 := HXR.cell (i := 1) rfl
        have t1 := HXR.free 1
        have u2 := HXR.cell (i := 2) rfl
        have t2 := HXR.free 2
        have u3 := HXR.cell (i := 3) rfl
        have t3 := HXR.free 3
        have u4 := HXR.cell (i := 4) rfl
        have t4 := HXR.free 4
        refine callH 12 (by kernel_rfl) (by kernel_rfl) rfl (by rfl) ?_
        intro K hK
        go_simp
        refine hK.out _ _ (HSF.out _ (below_put5 hbz (Nat.le_refl _) _ _ _ _ _)) (fun hHeld => ?_)
        clear hK K
        (try go_simp)
        refine doneH (by kernel_rfl) ?_
        go_wp2
        have hp := HXR.put5 (.slice adc M.inits.length cpc) (.int .i64 0) (.int .i64 0) (.slice (some ⟨V12.heap.size, 0, none⟩) M.events.length M.events.length) (.slice (some ⟨D.heap.size, 0, none⟩) M.events.length M.events.length)
        refine bodyPost_ret (v := .agg #[.slice adc M.inits.length cpc, .int .i64 0, .int .i64 0, .slice (some ⟨V12.heap.size, 0, none⟩) M.events.length M.events.length, .slice (some ⟨D.heap.size, 0, none⟩) M.events.length M.events.length]) (st_results hp rfl Tryz.f65 rfl) rfl ?_
        exact start_end HB1.out hbz ((Turned.refl HXR).put5 (.slice adc M.inits.length cpc) (.int .i64 0) (.int .i64 0) (.slice (some ⟨V12.heap.size, 0, none⟩) M.events.length M.events.length) (.slice (some ⟨D.heap.size, 0, none⟩) M.events.length M.events.length)) hrc hcp hgc ho6 hg6 ho10 hg10 (by omega)
    · obtain ⟨V14, hv14, hbn, xn⟩ := box1 V11 (madeCells #[.int .i64 0] M.events.length) 3
      have ho6 := OwnI.made xn (by omega)
      have hg6 := HXR.lt
      intro K hK
      go_simp
      have hbz : Below W1.heap.size W1 (V14) := hbz.trans (hbn.mono hbz.size)
      replace HXR := HXR.keep hbn
      replace ho10 := ho10.keep hbn
      refine hK.out _ _ (HSF.out _ hbz) (fun hHeld => ?_)
      clear hK K hbn xn
      (try go_simp)
      refine callH 2 (by kernel_rfl) (by kernel_rfl) rfl (by rfl) ?_
      · intro K hK
        go_simp
        go_at_call 77
        have HBV := hbz
        with_reducible refine (HCL.out _ HBV).mono ?_
        rintro e15 V15 ⟨vc, rfl, hoc, hbn⟩
        obtain ⟨adc, cpc, ec⟩ := owns_len hoc
        subst ec
        have hcp := RowE.caps (rowI_of hoc)
        have hrc := OwnI.of hoc
        have hgc := HXR.lt
        have hbz := hbz.trans (hbn.mono hbz.size)
        replace HXR := HXR.keep hbn
        replace ho10 := ho10.keep hbn
        replace ho6 := ho6.keep hbn
        refine hK.out _ _ (HSF.out _ hbz) (fun hHeld => ?_)
        clear hK K hbn
        (try go_simp)
        refine takesH [11] (by kernel_rfl) (fun _ _ d _ _ h => by cases d <;> exact h) (by kernel_rfl) (by kernel_rfl) (by assumption) ?_
        repeat (first
          | (refine TakeSeq.cons (v := ?_) rfl (by rfl) ?_ ?_
             rotate_left
             · ((intro w hSw; unfold MdB at hSw; go_simp) <;> (try with_reducible rfl))
             (try go_simp))
          | (refine TakeSeq.skip rfl (by rfl) ?_; (try go_simp)))
        refine TakeSeq.nil ?_
        have u0 := HXR.cell (i := 0) rfl
        have t0 := HXR.free 0
        have u1 := HXR.cell (i := 1) rfl
        have t1 := HXR.free 1
        have u2 := HXR.cell (i := 2) rfl
        have t2 := HXR.free 2
        have u3 := HXR.cell (i := 3) rfl
        have t3 := HXR.free 3
        have u4 := HXR.cell (i := 4) rfl
        have t4 := HXR.free 4
        refine callH 12 (by kernel_rfl) (by kernel_rfl) rfl (by rfl) ?_
        intro K hK
        go_simp
        refine hK.out _ _ (HSF.out _ (below_put5 hbz (Nat.le_refl _) _ _ _ _ _)) (fun hHeld => ?_)
        clear hK K
        (try go_simp)
        refine doneH (by kernel_rfl) ?_
        go_wp2
        have hp := HXR.put5 (.slice adc M.inits.length cpc) (.int .i64 0) (.int .i64 0) (.slice (some ⟨V11.heap.size, 0, none⟩) M.events.length M.events.length) (.slice (some ⟨D.heap.size, 0, none⟩) M.events.length M.events.length)
        refine bodyPost_ret (v := .agg #[.slice adc M.inits.length cpc, .int .i64 0, .int .i64 0, .slice (some ⟨V11.heap.size, 0, none⟩) M.events.length M.events.length, .slice (some ⟨D.heap.size, 0, none⟩) M.events.length M.events.length]) (st_results hp rfl Tryz.f65 rfl) rfl ?_
        exact start_end HB1.out hbz ((Turned.refl HXR).put5 (.slice adc M.inits.length cpc) (.int .i64 0) (.int .i64 0) (.slice (some ⟨V11.heap.size, 0, none⟩) M.events.length M.events.length) (.slice (some ⟨D.heap.size, 0, none⟩) M.events.length M.events.length)) hrc hcp hgc ho6 hg6 ho10 hg10 (by omega)
end Go.Proofs.YtadjnfpomjopkaaGreat

namespace Go.Proofs.YtadjnfpomjopkaaGreat
open Go.RowKit
/-- a model that is not great -/
def GoodM (M : Mdl) : Prop := M.stages.length ≤ 31 ∧ M.inits.length ≤ 1000 ∧ M.events.length ≤ 1000000 ∧ ∀ x ∈ M.order, (condS M x).length ≤ 10000
theorem pass_inv {w : World} {r : Stm} {M : Mdl} (ev : Int) (l : List (Bool × Int)) : ∀ {s : Sta}, StQ w r s → Bd s → StQ w r (l.foldl (pasX M ev) s) ∧ Bd (l.foldl (pasX M ev) s) := by
  induction l with
  | nil => exact fun h1 h2 => ⟨h1, h2⟩
  | cons x l ih =>
    intro s h1 h2
    rw [List.foldl_cons]
    refine ih ?_ ?_
    · unfold pasX; split
      · exact h1.fire M x
      · exact h1
    · unfold pasX; split
      · exact fireS_bd x h2
      · exact h2
theorem StQ.pass {w : World} {r : Stm} {M : Mdl} {s : Sta} (ev : Int) (h : StQ w r s) (hb : Bd s) : StQ w r (pasS M ev s) := (pass_inv ev M.order h hb).1
theorem Bd.pass {M : Mdl} {s : Sta} (ev : Int) (hb : Bd s) : Bd (pasS M ev s) := by
  unfold pasS
  generalize M.order = l
  induction l generalizing s with
  | nil => exact hb
  | cons x l ih =>
    rw [List.foldl_cons]
    refine ih ?_
    unfold pasX; split
    · exact fireS_bd x hb
    · exact hb
theorem StA.fire {B : Nat} {r : Stm} {M : Mdl} {s : Sta} (x : Bool × Int) (h : StA B r s) : StA B r (fireS M s x) := by
  obtain ⟨e0, e3, e4⟩ := fireS_len M s x
  unfold StA
  rw [e0, e3, e4]; exact h
theorem StA.pass {B : Nat} {r : Stm} {M : Mdl} {s : Sta} (ev : Int) (h : StA B r s) : StA B r (pasS M ev s) := by
  unfold pasS
  generalize M.order = l
  induction l generalizing s with
  | nil => exact h
  | cons x l ih =>
    rw [List.foldl_cons]
    refine ih ?_
    unfold pasX; split
    · exact h.fire x
    · exact h
theorem startS_bd (M : Mdl) : Bd (startS M) := ⟨Int.le_refl _, by show (0 : Int) < 2147483648; omega⟩

set_option maxRecDepth 100000 in
set_option maxHeartbeats 4000000 in
theorem beginQ {w : World} {q : Mem} {M : Mdl} (hm : MdQ w q M) (hg : GoodM M) :
    Calls Tryz.prog 56 #[.agg (mdC q M)] w fun e w' => (∃ r, e = .returned (.agg (stC r (beginS M))) ∧ StQ w' r (beginS M) ∧ StA w.heap.size r (beginS M)) ∧ Below w.heap.size w w' := by
  obtain ⟨W1, h1, HB1, HM, HF⟩ := boxM hm
  obtain ⟨W2, h2, hb2, x2⟩ := box1 W1 #[.slice none 0 0, .int .i64 0, .int .i64 0, .slice none 0 0, .slice none 0 0] 44
  have HX := Lib.hid x2
  have HB2 := Lib.hid hb2
  have HST : Hid (∀ V, Below W1.heap.size W1 V → Calls Tryz.prog 65 #[.agg (mdC q M)] V fun e w' => (∃ r, e = .returned (.agg (stC r (startS M))) ∧ StQ w' r (startS M) ∧ StA V.heap.size r (startS M)) ∧ Below V.heap.size V w') := fun V hV => startQ (HM.out.below hV) hg.2.1 hg.2.2.1
  have HPA : Hid (∀ V r, Below W1.heap.size W1 V → StQ V r (startS M) → Calls Tryz.prog 64 #[.agg (mdC q M), .agg (stC r (startS M)), .int .i64 (-1)] V (Ret V (.agg (stC r (beginS M))))) := fun V r hV hS => passQ (HM.out.below hV) hS (-1) (startS_bd M) hg.1 hg.2.2.2
  have HSF : Hid (∀ V, Below W1.heap.size W1 V → MdB V w.heap.size q M) := HF
  unfold mdC at h1 HST HPA ⊢
  clear hm hb2 x2 hg HF
  go_enter Tryz.func56, Tryz.ntmps56
  go_upto_region 1 with fail
  have hbz : Below W1.heap.size W1 W2.drew := HB2.out.drew
  refine startH (S := fun V => MdB V w.heap.size q M) (by kernel_rfl) (HSF.out _ hbz) (fun hHeld => ?_)
  have HXR := HX.out.drew
  generalize W2.drew = D at hbz hHeld HXR ⊢
  refine takesH [0, 1] (by kernel_rfl) (fun _ _ d _ _ h => by cases d <;> exact h) (by kernel_rfl) (by kernel_rfl) (by assumption) ?_
  repeat (first
    | (refine TakeSeq.cons (v := ?_) rfl (by rfl) ?_ ?_
       rotate_left
       · ((intro w hSw; unfold MdB at hSw; go_simp) <;> (try with_reducible rfl))
       (try go_simp))
    | (refine TakeSeq.skip rfl (by rfl) ?_; (try go_simp)))
  refine TakeSeq.nil ?_
  refine callH 2 (by kernel_rfl) (by kernel_rfl) rfl (by rfl) ?_
  intro K hK
  go_simp
  go_at_call 65
  with_reducible refine (HST.out _ hbz).mono ?_
  rintro e3 V3 ⟨⟨r, rfl, hS3, hA3⟩, hbn⟩
  have hlt := HXR.lt
  have hbz := hbz.trans (hbn.mono hbz.size)
  replace HXR := HXR.keep hbn
  refine hK.out _ _ (HSF.out _ hbz) (fun hHeld => ?_)
  clear hK K hbn
  (try go_simp)
  have HPX := Lib.hid (HPA.out _ r hbz hS3)
  refine callH 3 (by kernel_rfl) (by kernel_rfl) rfl (by rfl) ?_
  intro K hK
  go_simp
  go_at_call 64
  with_reducible refine HPX.out.mono ?_
  rintro e4 V4 ⟨rfl, hbn⟩
  have hbz := hbz.trans (hbn.mono hbz.size)
  replace HXR := HXR.keep hbn
  have hS4 : StQ V4 r (beginS M) := (StQ.pass (-1) hS3 (startS_bd M)).below hbn
  have hA4 : StA D.heap.size r (beginS M) := hA3.pass (-1)
  obtain ⟨sp, hsp⟩ : ∃ s, beginS M = s := ⟨_, rfl⟩
  have HSP := Lib.hid hsp
  rw [hsp] at hS4 hA4 ⊢
  refine hK.out _ _ (HSF.out _ hbz) (fun hHeld => ?_)
  clear hK K hbn hS3 HPX HPA HST hsp
  unfold stC
  (try go_simp)
  have u0 := HXR.cell (i := 0) rfl
  have t0 := HXR.free 0
  have u1 := HXR.cell (i := 1) rfl
  have t1 := HXR.free 1
  have u2 := HXR.cell (i := 2) rfl
  have t2 := HXR.free 2
  have u3 := HXR.cell (i := 3) rfl
  have t3 := HXR.free 3
  have u4 := HXR.cell (i := 4) rfl
  have t4 := HXR.free 4
  refine callH 4 (by kernel_rfl) (by kernel_rfl) rfl (by rfl) ?_
  intro K hK
  go_simp
  refine hK.out _ _ (HSF.out _ (below_put5 hbz (Nat.le_refl _) _ _ _ _ _)) (fun hHeld => ?_)
  clear hK K
  (try go_simp)
  refine doneH (by kernel_rfl) ?_
  go_wp2
  have hp := HXR.put5 (.slice r.a0 sp.vals.length r.k0) (.int .i64 sp.opn) (.int .i64 sp.dne) (.slice r.a3 sp.did.length r.k3) (.slice r.a4 sp.cnt.length r.k4)
  refine bodyPost_ret (v := .agg #[.slice r.a0 sp.vals.length r.k0, .int .i64 sp.opn, .int .i64 sp.dne, .slice r.a3 sp.did.length r.k3, .slice r.a4 sp.cnt.length r.k4]) (st_results hp rfl Tryz.f56 rfl) rfl ?_
  have hT := (Turned.refl HXR).put5 (.slice r.a0 sp.vals.length r.k0) (.int .i64 sp.opn) (.int .i64 sp.dne) (.slice r.a3 sp.did.length r.k3) (.slice r.a4 sp.cnt.length r.k4)
  rw [HSP.out]
  exact ⟨⟨r, rfl, hS4.turn hA4 hT hlt, hA4.mono (by have := HB1.out.size; omega)⟩, HB1.out.trans ((hbz.trans hT.2.1).mono HB1.out.size)⟩
end Go.Proofs.YtadjnfpomjopkaaGreat
