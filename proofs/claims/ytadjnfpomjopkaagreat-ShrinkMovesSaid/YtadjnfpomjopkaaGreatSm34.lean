/- The reference: Start, Begin (printed by gen_r14.py). -/
import Derived.Test.YtadjnfpomjopkaaGreatSm33

namespace Go.Proofs.YtadjnfpomjopkaaGreat
open Go.RowKit

/-- append of a slice that reads, one cell an element -/
theorem append_reads {P : Program} (w : World) (t ty e : TypeId) (z : Value) (bytes base : Nat) (ht : P.underlying t = some (.slice e)) (hinfo : (P.info? e).map (fun i => (i.zero, i.size, i.bytes)) = some (some z, 1, bytes))
    (hzs : z.cells.size = 1) (hby : 0 < bytes) (v : Value) (n : Nat) (xs : List Value) (hown : w.ownsRow base e 1 v n xs) (vx : Value) (news : List Value) (hr : Reads w vx news) (h1 : ∀ u ∈ news, u.oneCell' = true)
    (hbytes : (n + news.length) * bytes ≤ 140737488355328) (hbase : base ≤ w.heap.size) :
    ∃ v' w', (Builtin.append_ #[t, t] ty #[v, vx]).run P w = .ok v' w' ∧ w'.ownsRow base e 1 v' (n + news.length) (xs ++ news) ∧ w.grownBy w' v.ownBlock := by
  obtain ⟨i, hi, hz0, hz1, hz2⟩ := info_parts hinfo
  have h63 : n + news.length ≤ maxLen := by
    have : (n + news.length) * 1 ≤ (n + news.length) * bytes := Nat.mul_le_mul_left _ hby
    unfold maxLen; omega
  have key : ∀ ad m c, vx = .slice (some ad) m c → news.length = m → (∀ j u, news[j]? = some u → w.cell? (ad.add j) = some u) → ∃ v' w', (Builtin.append_ #[t, t] ty #[v, vx]).run P w = .ok v' w' ∧ w'.ownsRow base e 1 v' (n + news.length) (xs ++ news) ∧ w.grownBy w' v.ownBlock := by
    rintro ad m c rfl hm hc
    obtain ⟨v', w', h2, h3, h4, _⟩ := run_append_own (P := P) w base t ty e i z 1 bytes ht hi hz0 hz1 hz2 hzs Nat.one_pos v n xs hown ad m c news (by omega) hc h1 (by omega) (by rw [← hm]; exact hbytes) hbase
    exact ⟨v', w', h2, by rw [hm]; exact h3, h4⟩
  rcases hr with ⟨ad, cap, hv, hn⟩ | ⟨b, off, cap, hv, _, _, hc⟩
  · cases ad with
    | some ad => exact key ad 0 cap hv (by rw [hn]; rfl) (by rw [hn]; intro j u hu; simp at hu)
    | none =>
      subst hn hv
      exact ⟨v, w, run_append_nothing t ty e i 1 cap ht hi v n xs hown, by simpa using hown, ⟨rfl, rfl, rfl, Nat.le_refl _, fun _ _ _ => rfl⟩⟩
  · refine key ⟨b, off, none⟩ _ cap hv rfl (fun j u hu => ?_)
    have : (⟨b, off, none⟩ : Addr).add j = ⟨b, off + j, none⟩ := by unfold Addr.add; split <;> simp_all
    rw [this]; exact hc j u hu
theorem app_hand {P : Program} {o : Oper} {a : Act} {w : World} {K : Act → World → Prop} {Q : Exit → Act → World → Prop} (s x : Operand) (t u : TypeId)
    (hop : o.op = Op.call { callee := Callee.builtin Builtin.append, args := #[s, x], argTypes := #[t, u] })
    (vs vx : Value) (hs : a.eval s = vs) (hx : a.eval x = vx) (v' : Value) (w' : World) (hr : (Builtin.append_ #[t, u] o.type #[vs, vx]).run P w = .ok v' w') (hK : K (a.put o.dst v') w') : Oper.wp P o a w K Q := by
  unfold Oper.wp
  simp [execOp, hop, resolve, invoke, builtin, hs, hx, hr, Result.andThen]
  exact hK
theorem OwnI.grown {w w' : World} {base : Nat} {g : Nat} {row : Option Nat} {t : TypeId} {l : List Int} (h : OwnI w base (some ⟨g, 0, none⟩) t l) (hg : w.grownBy w' row) (hne : row ≠ some g) : OwnI w' base (some ⟨g, 0, none⟩) t l := by
  rcases h with h | ⟨g', cur, ha, h1, hb, h2⟩
  · exact .inl h
  · simp only [Option.some.injEq, Addr.mk.injEq, and_true] at ha
    subst ha
    exact .inr ⟨g, cur, rfl, h1, hb.grown hg hne, h2⟩
theorem own_row {w : World} {base : Nat} {t : TypeId} {v : Value} {l : List Int} (h : w.ownsRow base t 1 v l.length (ints l)) : ∃ ad cap, v = .slice ad l.length cap ∧ OwnI w base ad t l ∧ (ad = none → cap = 0) ∧ l.length ≤ cap ∧ cap ≤ maxLen := by
  obtain ⟨ad, cap, e⟩ := owns_len h
  subst e
  exact ⟨ad, cap, rfl, OwnI.of h, RowE.caps (rowI_of h)⟩
theorem ownB (g n c : Nat) : (Value.slice (some ⟨g, 0, none⟩) n c).ownBlock = some g := rfl

set_option maxRecDepth 100000 in
set_option maxHeartbeats 8000000 in
theorem rstartQ {w : World} {q : Mem} {M : Mdl} (hm : MdQ w q M) (hi : M.inits.length ≤ 1000) (hev : M.events.length ≤ 1000000) :
    Calls Tryz.prog 51 #[.agg (mdC q M)] w fun e w' => (∃ r, e = .returned (.agg (stC r (startS M))) ∧ StQ w' r (startS M) ∧ StA w.heap.size r (startS M)) ∧ Below w.heap.size w w' := by
  obtain ⟨i1, hi1, hy0, hy1, hy2⟩ := info_parts info_int
  have mk := fun (w : World) => run_makeSlice (P := Tryz.prog) w 42 3 i1 _ Tryz.underlying42 hi1 hy0 .i64 .i64 (M.events.length : Int) (M.events.length : Int) (by omega) (Int.le_refl _) (by rw [hy1]; simp; omega) (by rw [hy2]; omega) (by omega)
  simp only [Int.toNat_natCast, hy1, Nat.mul_one] at mk
  obtain ⟨W1, h1, HB1, HM, HF⟩ := boxM hm
  obtain ⟨W2, h2, hb2, x2⟩ := box1 W1 #[.slice none 0 0, .int .i64 0, .int .i64 0, .slice none 0 0, .slice none 0 0] 44
  have HX := Lib.hid x2
  have HB2 := Lib.hid hb2
  have HIN : Hid (∀ V, Below W1.heap.size W1 V → Reads V (.slice q.a1 M.inits.length q.k1) (ints M.inits)) := fun V hV => Reads.of_rowE (HM.out.below hV).inits
  have HSF : Hid (∀ V, Below W1.heap.size W1 V → MdB V w.heap.size q M) := HF
  have HII := Lib.hid hi
  have hme := hm.events.max
  have hF := HF.out _ hb2
  unfold MdB at hF
  unfold mdC at h1 ⊢
  obtain ⟨c0, c1, c2, c3, c4, c5, c6, c7, c8, c9⟩ := hF
  clear hm hb2 x2 hi HF
  go_enter Tryz.func51, Tryz.ntmps51
  go_upto_region 2 with fail
  clear c0 c1 c2 c3 c4 c5 c6 c7 c8 c9
  have hbz : Below W1.heap.size W1 W2.drew := HB2.out.drew
  refine startH (S := fun V => MdB V w.heap.size q M) (by kernel_rfl) (HSF.out _ hbz) (fun hHeld => ?_)
  have HXR := HX.out.drew
  generalize W2.drew = D at hbz hHeld HXR ⊢
  refine takesH [1, 2, 4, 6] (by kernel_rfl) (fun _ _ d _ _ h => by cases d <;> exact h) (by kernel_rfl) (by kernel_rfl) (by assumption) ?_
  repeat (first
    | (refine TakeSeq.cons (v := ?_) rfl (by rfl) ?_ ?_
       rotate_left
       · ((intro w hSw; unfold MdB at hSw; go_simp) <;> (try with_reducible rfl))
       (try go_simp))
    | (refine TakeSeq.skip rfl (by rfl) ?_; (try go_simp)))
  refine TakeSeq.nil ?_
  have hlx0 : W1.heap.size < D.heap.size := HXR.lt
  refine callH3 0 5 7 (by kernel_rfl) (by kernel_rfl) rfl (by rfl) rfl (by rfl) rfl (by rfl) ?_ ?_ ?_
  · obtain ⟨V1, hv1, hbn, xn⟩ := box1 D #[] 2
    have hz1 : Hid (V1.heap.size = D.heap.size + 1) := by unfold Hid; rw [← hv1]; simp
    have hrow : V1.ownsRow D.heap.size 2 1 (.slice (some ⟨D.heap.size, 0, none⟩) 0 0) 0 [] := by rw [← hv1]; exact World.ownsRow_lit D #[] 0 (Nat.le_refl _) (Nat.zero_le _) rfl
    have hlx := HXR.lt
    intro K hK
    go_simp
    replace HXR := HXR.keep hbn
    have hbz := hbz.trans (hbn.mono hbz.size)
    refine hK.out _ _ (HSF.out _ hbz) (fun hHeld => ?_)
    clear hK K hbn xn
    (try go_simp)
    refine callH3 3 5 7 (by kernel_rfl) (by kernel_rfl) rfl (by rfl) rfl (by rfl) rfl (by rfl) ?_ ?_ ?_
    · obtain ⟨va, V2, hrun, hown, hgr⟩ := append_reads (P := Tryz.prog) V1 23 23 2 (.int .i64 0) 8 D.heap.size Tryz.underlying23 info_int64 rfl (by decide) _ 0 [] hrow _ _ (HIN.out _ hbz) (ints_one _) (by rw [ints_len]; have := HII.out; omega) (by have := hz1.out; omega)
      rw [ownB] at hgr
      rw [ints_len, Nat.zero_add, List.nil_append] at hown
      obtain ⟨adc, cpc, eva, hrc, hcp⟩ := own_row hown
      subst eva
      have hlx := HXR.lt
      have hz2 : Hid (V1.heap.size ≤ V2.heap.size) := hgr.size
      intro K hK
      refine app_hand _ _ _ _ rfl _ _ rfl rfl _ _ hrun ?_
      replace HXR := HXR.grown hgr (by simp only [ne_eq, Option.some.injEq]; exact (by have := hz1.out; have := hz2.out; omega))
      have hbz : Below W1.heap.size W1 V2 := hbz.grown hgr hbz.size (fun k e => by cases e; exact (by have := hz1.out; have := hz2.out; omega))
      refine hK.out _ _ (HSF.out _ hbz) (fun hHeld => ?_)
      clear hK K hrun hown hgr hrow
      (try go_simp)
      refine callH2 5 7 (by kernel_rfl) (by kernel_rfl) rfl (by rfl) rfl (by rfl) ?_ ?_
      · obtain ⟨V3, hv3, hbn, xn⟩ := box1 V2 (madeCells #[.int .i64 0] M.events.length) 3
        have hz3 : Hid (V3.heap.size = V2.heap.size + 1) := by unfold Hid; rw [← hv3]; simp
        have ho5 := OwnI.made xn (by omega)
        have hlx := HXR.lt
        intro K hK
        go_simp
        replace HXR := HXR.keep hbn
        replace hrc := hrc.keep hbn
        have hbz := hbz.trans (hbn.mono hbz.size)
        refine hK.out _ _ (HSF.out _ hbz) (fun hHeld => ?_)
        clear hK K hbn xn
        (try go_simp)
        refine callH 7 (by kernel_rfl) (by kernel_rfl) rfl (by rfl) ?_
        · obtain ⟨V4, hv4, hbn, xn⟩ := box1 V3 (madeCells #[.int .i64 0] M.events.length) 3
          have hz4 : Hid (V4.heap.size = V3.heap.size + 1) := by unfold Hid; rw [← hv4]; simp
          have ho7 := OwnI.made xn (by omega)
          have hlx := HXR.lt
          intro K hK
          go_simp
          replace HXR := HXR.keep hbn
          replace ho5 := ho5.keep hbn
          replace hrc := hrc.keep hbn
          have hbz := hbz.trans (hbn.mono hbz.size)
          refine hK.out _ _ (HSF.out _ hbz) (fun hHeld => ?_)
          clear hK K hbn xn
          (try go_simp)
          refine takesH [8] (by kernel_rfl) (fun _ _ d _ _ h => by cases d <;> exact h) (by kernel_rfl) (by kernel_rfl) (by assumption) ?_
          repeat (first
            | (refine TakeSeq.cons (v := ?_) rfl (by rfl) ?_ ?_
               rotate_left
               · ((intro w hSw; unfold MdB at hSw; go_simp) <;> (try with_reducible rfl))
               (try go_simp))
            | (refine TakeSeq.skip rfl (by rfl) ?_; (try go_simp)))
          refine TakeSeq.nil ?_
          have u0 := HXR.cell (i := 0) rfl
          have t0 := HXR.free 0
          have u1 := HXR.cell (i := 1) rfl
          have t1 := HXR.free 1
          have u2 := HXR.cell (i := 2) rfl
          have t2 := HXR.free 2
          have u3 := HXR.cell (i := 3) rfl
          have t3 := HXR.free 3
          have u4 := HXR.cell (i := 4) rfl
          have t4 := HXR.free 4
          refine callH 9 (by kernel_rfl) (by kernel_rfl) rfl (by rfl) ?_
          intro K hK
          go_simp
          refine hK.out _ _ (HSF.out _ (below_put5 hbz (Nat.le_refl _) _ _ _ _ _)) (fun hHeld => ?_)
          clear hK K
          (try go_simp)
          refine doneH (by kernel_rfl) ?_
          go_wp2
          have hp := HXR.put5 (.slice adc M.inits.length cpc) (.int .i64 0) (.int .i64 0) (.slice (some ⟨V2.heap.size, 0, none⟩) M.events.length M.events.length) (.slice (some ⟨V3.heap.size, 0, none⟩) M.events.length M.events.length)
          refine bodyPost_ret (v := .agg #[.slice adc M.inits.length cpc, .int .i64 0, .int .i64 0, .slice (some ⟨V2.heap.size, 0, none⟩) M.events.length M.events.length, .slice (some ⟨V3.heap.size, 0, none⟩) M.events.length M.events.length]) (st_results hp rfl Tryz.f51 rfl) rfl ?_
          exact start_end HB1.out hbz ((Turned.refl HXR).put5 (.slice adc M.inits.length cpc) (.int .i64 0) (.int .i64 0) (.slice (some ⟨V2.heap.size, 0, none⟩) M.events.length M.events.length) (.slice (some ⟨V3.heap.size, 0, none⟩) M.events.length M.events.length)) hrc hcp (by have := hz1.out; have := hz2.out; have := hz3.out; have := hz4.out; omega) ho5 (by have := hz1.out; have := hz2.out; have := hz3.out; have := hz4.out; omega) ho7 (by have := hz1.out; have := hz2.out; have := hz3.out; have := hz4.out; omega) (by omega)
      · obtain ⟨V5, hv5, hbn, xn⟩ := box1 V2 (madeCells #[.int .i64 0] M.events.length) 3
        have hz5 : Hid (V5.heap.size = V2.heap.size + 1) := by unfold Hid; rw [← hv5]; simp
        have ho7 := OwnI.made xn (by omega)
        have hlx := HXR.lt
        intro K hK
        go_simp
        replace HXR := HXR.keep hbn
        replace hrc := hrc.keep hbn
        have hbz := hbz.trans (hbn.mono hbz.size)
        refine hK.out _ _ (HSF.out _ hbz) (fun hHeld => ?_)
        clear hK K hbn xn
        (try go_simp)
        refine callH 5 (by kernel_rfl) (by kernel_rfl) rfl (by rfl) ?_
        · obtain ⟨V6, hv6, hbn, xn⟩ := box1 V5 (madeCells #[.int .i64 0] M.events.length) 3
          have hz6 : Hid (V6.heap.size = V5.heap.size + 1) := by unfold Hid; rw [← hv6]; simp
          have ho5 := OwnI.made xn (by omega)
          have hlx := HXR.lt
          intro K hK
          go_simp
          replace HXR := HXR.keep hbn
          replace ho7 := ho7.keep hbn
          replace hrc := hrc.keep hbn
          have hbz := hbz.trans (hbn.mono hbz.size)
          refine hK.out _ _ (HSF.out _ hbz) (fun hHeld => ?_)
          clear hK K hbn xn
          (try go_simp)
          refine takesH [8] (by kernel_rfl) (fun _ _ d _ _ h => by cases d <;> exact h) (by kernel_rfl) (by kernel_rfl) (by assumption) ?_
          repeat (first
            | (refine TakeSeq.cons (v := ?_) rfl (by rfl) ?_ ?_
               rotate_left
               · ((intro w hSw; unfold MdB at hSw; go_simp) <;> (try with_reducible rfl))
               (try go_simp))
            | (refine TakeSeq.skip rfl (by rfl) ?_; (try go_simp)))
          refine TakeSeq.nil ?_
          have u0 := HXR.cell (i := 0) rfl
          have t0 := HXR.free 0
          have u1 := HXR.cell (i := 1) rfl
          have t1 := HXR.free 1
          have u2 := HXR.cell (i := 2) rfl
          have t2 := HXR.free 2
          have u3 := HXR.cell (i := 3) rfl
          have t3 := HXR.free 3
          have u4 := HXR.cell (i := 4) rfl
          have t4 := HXR.free 4
          refine callH 9 (by kernel_rfl) (by kernel_rfl) rfl (by rfl) ?_
          intro K hK
          go_simp
          refine hK.out _ _ (HSF.out _ (below_put5 hbz (Nat.le_refl _) _ _ _ _ _)) (fun hHeld => ?_)
          clear hK K
          (try go_simp)
          refine doneH (by kernel_rfl) ?_
          go_wp2
          have hp := HXR.put5 (.slice adc M.inits.length cpc) (.int .i64 0) (.int .i64 0) (.slice (some ⟨V5.heap.size, 0, none⟩) M.events.length M.events.length) (.slice (some ⟨V2.heap.size, 0, none⟩) M.events.length M.events.length)
          refine bodyPost_ret (v := .agg #[.slice adc M.inits.length cpc, .int .i64 0, .int .i64 0, .slice (some ⟨V5.heap.size, 0, none⟩) M.events.length M.events.length, .slice (some ⟨V2.heap.size, 0, none⟩) M.events.length M.events.length]) (st_results hp rfl Tryz.f51 rfl) rfl ?_
          exact start_end HB1.out hbz ((Turned.refl HXR).put5 (.slice adc M.inits.length cpc) (.int .i64 0) (.int .i64 0) (.slice (some ⟨V5.heap.size, 0, none⟩) M.events.length M.events.length) (.slice (some ⟨V2.heap.size, 0, none⟩) M.events.length M.events.length)) hrc hcp (by have := hz1.out; have := hz2.out; have := hz5.out; have := hz6.out; omega) ho5 (by have := hz1.out; have := hz2.out; have := hz5.out; have := hz6.out; omega) ho7 (by have := hz1.out; have := hz2.out; have := hz5.out; have := hz6.out; omega) (by omega)
    · obtain ⟨V7, hv7, hbn, xn⟩ := box1 V1 (madeCells #[.int .i64 0] M.events.length) 3
      have hz7 : Hid (V7.heap.size = V1.heap.size + 1) := by unfold Hid; rw [← hv7]; simp
      have ho5 := OwnI.made xn (by omega)
      have hlx := HXR.lt
      intro K hK
      go_simp
      replace HXR := HXR.keep hbn
      replace hrow := owns_below hrow hbn
      have hbz := hbz.trans (hbn.mono hbz.size)
      refine hK.out _ _ (HSF.out _ hbz) (fun hHeld => ?_)
      clear hK K hbn xn
      (try go_simp)
      refine callH2 3 7 (by kernel_rfl) (by kernel_rfl) rfl (by rfl) rfl (by rfl) ?_ ?_
      · obtain ⟨va, V8, hrun, hown, hgr⟩ := append_reads (P := Tryz.prog) V7 23 23 2 (.int .i64 0) 8 D.heap.size Tryz.underlying23 info_int64 rfl (by decide) _ 0 [] hrow _ _ (HIN.out _ hbz) (ints_one _) (by rw [ints_len]; have := HII.out; omega) (by have := hz1.out; have := hz7.out; omega)
        rw [ownB] at hgr
        rw [ints_len, Nat.zero_add, List.nil_append] at hown
        obtain ⟨adc, cpc, eva, hrc, hcp⟩ := own_row hown
        subst eva
        have hlx := HXR.lt
        have hz8 : Hid (V7.heap.size ≤ V8.heap.size) := hgr.size
        intro K hK
        refine app_hand _ _ _ _ rfl _ _ rfl rfl _ _ hrun ?_
        replace HXR := HXR.grown hgr (by simp only [ne_eq, Option.some.injEq]; exact (by have := hz1.out; have := hz7.out; have := hz8.out; omega))
        replace ho5 := ho5.grown hgr (by simp only [ne_eq, Option.some.injEq]; exact (by have := hz1.out; have := hz7.out; have := hz8.out; omega))
        have hbz : Below W1.heap.size W1 V8 := hbz.grown hgr hbz.size (fun k e => by cases e; exact (by have := hz1.out; have := hz7.out; have := hz8.out; omega))
        refine hK.out _ _ (HSF.out _ hbz) (fun hHeld => ?_)
        clear hK K hrun hown hgr hrow
        (try go_simp)
        refine callH 7 (by kernel_rfl) (by kernel_rfl) rfl (by rfl) ?_
        · obtain ⟨V9, hv9, hbn, xn⟩ := box1 V8 (madeCells #[.int .i64 0] M.events.length) 3
          have hz9 : Hid (V9.heap.size = V8.heap.size + 1) := by unfold Hid; rw [← hv9]; simp
          have ho7 := OwnI.made xn (by omega)
          have hlx := HXR.lt
          intro K hK
          go_simp
          replace HXR := HXR.keep hbn
          replace ho5 := ho5.keep hbn
          replace hrc := hrc.keep hbn
          have hbz := hbz.trans (hbn.mono hbz.size)
          refine hK.out _ _ (HSF.out _ hbz) (fun hHeld => ?_)
          clear hK K hbn xn
          (try go_simp)
          refine takesH [8] (by kernel_rfl) (fun _ _ d _ _ h => by cases d <;> exact h) (by kernel_rfl) (by kernel_rfl) (by assumption) ?_
          repeat (first
            | (refine TakeSeq.cons (v := ?_) rfl (by rfl) ?_ ?_
               rotate_left
               · ((intro w hSw; unfold MdB at hSw; go_simp) <;> (try with_reducible rfl))
               (try go_simp))
            | (refine TakeSeq.skip rfl (by rfl) ?_; (try go_simp)))
          refine TakeSeq.nil ?_
          have u0 := HXR.cell (i := 0) rfl
          have t0 := HXR.free 0
          have u1 := HXR.cell (i := 1) rfl
          have t1 := HXR.free 1
          have u2 := HXR.cell (i := 2) rfl
          have t2 := HXR.free 2
          have u3 := HXR.cell (i := 3) rfl
          have t3 := HXR.free 3
          have u4 := HXR.cell (i := 4) rfl
          have t4 := HXR.free 4
          refine callH 9 (by kernel_rfl) (by kernel_rfl) rfl (by rfl) ?_
          intro K hK
          go_simp
          refine hK.out _ _ (HSF.out _ (below_put5 hbz (Nat.le_refl _) _ _ _ _ _)) (fun hHeld => ?_)
          clear hK K
          (try go_simp)
          refine doneH (by kernel_rfl) ?_
          go_wp2
          have hp := HXR.put5 (.slice adc M.inits.length cpc) (.int .i64 0) (.int .i64 0) (.slice (some ⟨V1.heap.size, 0, none⟩) M.events.length M.events.length) (.slice (some ⟨V8.heap.size, 0, none⟩) M.events.length M.events.length)
          refine bodyPost_ret (v := .agg #[.slice adc M.inits.length cpc, .int .i64 0, .int .i64 0, .slice (some ⟨V1.heap.size, 0, none⟩) M.events.length M.events.length, .slice (some ⟨V8.heap.size, 0, none⟩) M.events.length M.events.length]) (st_results hp rfl Tryz.f51 rfl) rfl ?_
          exact start_end HB1.out hbz ((Turned.refl HXR).put5 (.slice adc M.inits.length cpc) (.int .i64 0) (.int .i64 0) (.slice (some ⟨V1.heap.size, 0, none⟩) M.events.length M.events.length) (.slice (some ⟨V8.heap.size, 0, none⟩) M.events.length M.events.length)) hrc hcp (by have := hz1.out; have := hz7.out; have := hz8.out; have := hz9.out; omega) ho5 (by have := hz1.out; have := hz7.out; have := hz8.out; have := hz9.out; omega) ho7 (by have := hz1.out; have := hz7.out; have := hz8.out; have := hz9.out; omega) (by omega)
      · obtain ⟨V10, hv10, hbn, xn⟩ := box1 V7 (madeCells #[.int .i64 0] M.events.length) 3
        have hz10 : Hid (V10.heap.size = V7.heap.size + 1) := by unfold Hid; rw [← hv10]; simp
        have ho7 := OwnI.made xn (by omega)
        have hlx := HXR.lt
        intro K hK
        go_simp
        replace HXR := HXR.keep hbn
        replace ho5 := ho5.keep hbn
        replace hrow := owns_below hrow hbn
        have hbz := hbz.trans (hbn.mono hbz.size)
        refine hK.out _ _ (HSF.out _ hbz) (fun hHeld => ?_)
        clear hK K hbn xn
        (try go_simp)
        refine callH 3 (by kernel_rfl) (by kernel_rfl) rfl (by rfl) ?_
        · obtain ⟨va, V11, hrun, hown, hgr⟩ := append_reads (P := Tryz.prog) V10 23 23 2 (.int .i64 0) 8 D.heap.size Tryz.underlying23 info_int64 rfl (by decide) _ 0 [] hrow _ _ (HIN.out _ hbz) (ints_one _) (by rw [ints_len]; have := HII.out; omega) (by have := hz1.out; have := hz7.out; have := hz10.out; omega)
          rw [ownB] at hgr
          rw [ints_len, Nat.zero_add, List.nil_append] at hown
          obtain ⟨adc, cpc, eva, hrc, hcp⟩ := own_row hown
          subst eva
          have hlx := HXR.lt
          have hz11 : Hid (V10.heap.size ≤ V11.heap.size) := hgr.size
          intro K hK
          refine app_hand _ _ _ _ rfl _ _ rfl rfl _ _ hrun ?_
          replace HXR := HXR.grown hgr (by simp only [ne_eq, Option.some.injEq]; exact (by have := hz1.out; have := hz7.out; have := hz10.out; have := hz11.out; omega))
          replace ho5 := ho5.grown hgr (by simp only [ne_eq, Option.some.injEq]; exact (by have := hz1.out; have := hz7.out; have := hz10.out; have := hz11.out; omega))
          replace ho7 := ho7.grown hgr (by simp only [ne_eq, Option.some.injEq]; exact (by have := hz1.out; have := hz7.out; have := hz10.out; have := hz11.out; omega))
          have hbz : Below W1.heap.size W1 V11 := hbz.grown hgr hbz.size (fun k e => by cases e; exact (by have := hz1.out; have := hz7.out; have := hz10.out; have := hz11.out; omega))
          refine hK.out _ _ (HSF.out _ hbz) (fun hHeld => ?_)
          clear hK K hrun hown hgr hrow
          (try go_simp)
          refine takesH [8] (by kernel_rfl) (fun _ _ d _ _ h => by cases d <;> exact h) (by kernel_rfl) (by kernel_rfl) (by assumption) ?_
          repeat (first
            | (refine TakeSeq.cons (v := ?_) rfl (by rfl) ?_ ?_
               rotate_left
               · ((intro w hSw; unfold MdB at hSw; go_simp) <;> (try with_reducible rfl))
               (try go_simp))
            | (refine TakeSeq.skip rfl (by rfl) ?_; (try go_simp)))
          refine TakeSeq.nil ?_
          have u0 := HXR.cell (i := 0) rfl
          have t0 := HXR.free 0
          have u1 := HXR.cell (i := 1) rfl
          have t1 := HXR.free 1
          have u2 := HXR.cell (i := 2) rfl
          have t2 := HXR.free 2
          have u3 := HXR.cell (i := 3) rfl
          have t3 := HXR.free 3
          have u4 := HXR.cell (i := 4) rfl
          have t4 := HXR.free 4
          refine callH 9 (by kernel_rfl) (by kernel_rfl) rfl (by rfl) ?_
          intro K hK
          go_simp
          refine hK.out _ _ (HSF.out _ (below_put5 hbz (Nat.le_refl _) _ _ _ _ _)) (fun hHeld => ?_)
          clear hK K
          (try go_simp)
          refine doneH (by kernel_rfl) ?_
          go_wp2
          have hp := HXR.put5 (.slice adc M.inits.length cpc) (.int .i64 0) (.int .i64 0) (.slice (some ⟨V1.heap.size, 0, none⟩) M.events.length M.events.length) (.slice (some ⟨V7.heap.size, 0, none⟩) M.events.length M.events.length)
          refine bodyPost_ret (v := .agg #[.slice adc M.inits.length cpc, .int .i64 0, .int .i64 0, .slice (some ⟨V1.heap.size, 0, none⟩) M.events.length M.events.length, .slice (some ⟨V7.heap.size, 0, none⟩) M.events.length M.events.length]) (st_results hp rfl Tryz.f51 rfl) rfl ?_
          exact start_end HB1.out hbz ((Turned.refl HXR).put5 (.slice adc M.inits.length cpc) (.int .i64 0) (.int .i64 0) (.slice (some ⟨V1.heap.size, 0, none⟩) M.events.length M.events.length) (.slice (some ⟨V7.heap.size, 0, none⟩) M.events.length M.events.length)) hrc hcp (by have := hz1.out; have := hz7.out; have := hz10.out; have := hz11.out; omega) ho5 (by have := hz1.out; have := hz7.out; have := hz10.out; have := hz11.out; omega) ho7 (by have := hz1.out; have := hz7.out; have := hz10.out; have := hz11.out; omega) (by omega)
    · obtain ⟨V12, hv12, hbn, xn⟩ := box1 V1 (madeCells #[.int .i64 0] M.events.length) 3
      have hz12 : Hid (V12.heap.size = V1.heap.size + 1) := by unfold Hid; rw [← hv12]; simp
      have ho7 := OwnI.made xn (by omega)
      have hlx := HXR.lt
      intro K hK
      go_simp
      replace HXR := HXR.keep hbn
      replace hrow := owns_below hrow hbn
      have hbz := hbz.trans (hbn.mono hbz.size)
      refine hK.out _ _ (HSF.out _ hbz) (fun hHeld => ?_)
      clear hK K hbn xn
      (try go_simp)
      refine callH2 3 5 (by kernel_rfl) (by kernel_rfl) rfl (by rfl) rfl (by rfl) ?_ ?_
      · obtain ⟨va, V13, hrun, hown, hgr⟩ := append_reads (P := Tryz.prog) V12 23 23 2 (.int .i64 0) 8 D.heap.size Tryz.underlying23 info_int64 rfl (by decide) _ 0 [] hrow _ _ (HIN.out _ hbz) (ints_one _) (by rw [ints_len]; have := HII.out; omega) (by have := hz1.out; have := hz12.out; omega)
        rw [ownB] at hgr
        rw [ints_len, Nat.zero_add, List.nil_append] at hown
        obtain ⟨adc, cpc, eva, hrc, hcp⟩ := own_row hown
        subst eva
        have hlx := HXR.lt
        have hz13 : Hid (V12.heap.size ≤ V13.heap.size) := hgr.size
        intro K hK
        refine app_hand _ _ _ _ rfl _ _ rfl rfl _ _ hrun ?_
        replace HXR := HXR.grown hgr (by simp only [ne_eq, Option.some.injEq]; exact (by have := hz1.out; have := hz12.out; have := hz13.out; omega))
        replace ho7 := ho7.grown hgr (by simp only [ne_eq, Option.some.injEq]; exact (by have := hz1.out; have := hz12.out; have := hz13.out; omega))
        have hbz : Below W1.heap.size W1 V13 := hbz.grown hgr hbz.size (fun k e => by cases e; exact (by have := hz1.out; have := hz12.out; have := hz13.out; omega))
        refine hK.out _ _ (HSF.out _ hbz) (fun hHeld => ?_)
        clear hK K hrun hown hgr hrow
        (try go_simp)
        refine callH 5 (by kernel_rfl) (by kernel_rfl) rfl (by rfl) ?_
        · obtain ⟨V14, hv14, hbn, xn⟩ := box1 V13 (madeCells #[.int .i64 0] M.events.length) 3
          have hz14 : Hid (V14.heap.size = V13.heap.size + 1) := by unfold Hid; rw [← hv14]; simp
          have ho5 := OwnI.made xn (by omega)
          have hlx := HXR.lt
          intro K hK
          go_simp
          replace HXR := HXR.keep hbn
          replace ho7 := ho7.keep hbn
          replace hrc := hrc.keep hbn
          have hbz := hbz.trans (hbn.mono hbz.size)
          refine hK.out _ _ (HSF.out _ hbz) (fun hHeld => ?_)
          clear hK K hbn xn
          (try go_simp)
          refine takesH [8] (by kernel_rfl) (fun _ _ d _ _ h => by cases d <;> exact h) (by kernel_rfl) (by kernel_rfl) (by assumption) ?_
          repeat (first
            | (refine TakeSeq.cons (v := ?_) rfl (by rfl) ?_ ?_
               rotate_left
               · ((intro w hSw; unfold MdB at hSw; go_simp) <;> (try with_reducible rfl))
               (try go_simp))
            | (refine TakeSeq.skip rfl (by rfl) ?_; (try go_simp)))
          refine TakeSeq.nil ?_
          have u0 := HXR.cell (i := 0) rfl
          have t0 := HXR.free 0
          have u1 := HXR.cell (i := 1) rfl
          have t1 := HXR.free 1
          have u2 := HXR.cell (i := 2) rfl
          have t2 := HXR.free 2
          have u3 := HXR.cell (i := 3) rfl
          have t3 := HXR.free 3
          have u4 := HXR.cell (i := 4) rfl
          have t4 := HXR.free 4
          refine callH 9 (by kernel_rfl) (by kernel_rfl) rfl (by rfl) ?_
          intro K hK
          go_simp
          refine hK.out _ _ (HSF.out _ (below_put5 hbz (Nat.le_refl _) _ _ _ _ _)) (fun hHeld => ?_)
          clear hK K
          (try go_simp)
          refine doneH (by kernel_rfl) ?_
          go_wp2
          have hp := HXR.put5 (.slice adc M.inits.length cpc) (.int .i64 0) (.int .i64 0) (.slice (some ⟨V13.heap.size, 0, none⟩) M.events.length M.events.length) (.slice (some ⟨V1.heap.size, 0, none⟩) M.events.length M.events.length)
          refine bodyPost_ret (v := .agg #[.slice adc M.inits.length cpc, .int .i64 0, .int .i64 0, .slice (some ⟨V13.heap.size, 0, none⟩) M.events.length M.events.length, .slice (some ⟨V1.heap.size, 0, none⟩) M.events.length M.events.length]) (st_results hp rfl Tryz.f51 rfl) rfl ?_
          exact start_end HB1.out hbz ((Turned.refl HXR).put5 (.slice adc M.inits.length cpc) (.int .i64 0) (.int .i64 0) (.slice (some ⟨V13.heap.size, 0, none⟩) M.events.length M.events.length) (.slice (some ⟨V1.heap.size, 0, none⟩) M.events.length M.events.length)) hrc hcp (by have := hz1.out; have := hz12.out; have := hz13.out; have := hz14.out; omega) ho5 (by have := hz1.out; have := hz12.out; have := hz13.out; have := hz14.out; omega) ho7 (by have := hz1.out; have := hz12.out; have := hz13.out; have := hz14.out; omega) (by omega)
      · obtain ⟨V15, hv15, hbn, xn⟩ := box1 V12 (madeCells #[.int .i64 0] M.events.length) 3
        have hz15 : Hid (V15.heap.size = V12.heap.size + 1) := by unfold Hid; rw [← hv15]; simp
        have ho5 := OwnI.made xn (by omega)
        have hlx := HXR.lt
        intro K hK
        go_simp
        replace HXR := HXR.keep hbn
        replace ho7 := ho7.keep hbn
        replace hrow := owns_below hrow hbn
        have hbz := hbz.trans (hbn.mono hbz.size)
        refine hK.out _ _ (HSF.out _ hbz) (fun hHeld => ?_)
        clear hK K hbn xn
        (try go_simp)
        refine callH 3 (by kernel_rfl) (by kernel_rfl) rfl (by rfl) ?_
        · obtain ⟨va, V16, hrun, hown, hgr⟩ := append_reads (P := Tryz.prog) V15 23 23 2 (.int .i64 0) 8 D.heap.size Tryz.underlying23 info_int64 rfl (by decide) _ 0 [] hrow _ _ (HIN.out _ hbz) (ints_one _) (by rw [ints_len]; have := HII.out; omega) (by have := hz1.out; have := hz12.out; have := hz15.out; omega)
          rw [ownB] at hgr
          rw [ints_len, Nat.zero_add, List.nil_append] at hown
          obtain ⟨adc, cpc, eva, hrc, hcp⟩ := own_row hown
          subst eva
          have hlx := HXR.lt
          have hz16 : Hid (V15.heap.size ≤ V16.heap.size) := hgr.size
          intro K hK
          refine app_hand _ _ _ _ rfl _ _ rfl rfl _ _ hrun ?_
          replace HXR := HXR.grown hgr (by simp only [ne_eq, Option.some.injEq]; exact (by have := hz1.out; have := hz12.out; have := hz15.out; have := hz16.out; omega))
          replace ho7 := ho7.grown hgr (by simp only [ne_eq, Option.some.injEq]; exact (by have := hz1.out; have := hz12.out; have := hz15.out; have := hz16.out; omega))
          replace ho5 := ho5.grown hgr (by simp only [ne_eq, Option.some.injEq]; exact (by have := hz1.out; have := hz12.out; have := hz15.out; have := hz16.out; omega))
          have hbz : Below W1.heap.size W1 V16 := hbz.grown hgr hbz.size (fun k e => by cases e; exact (by have := hz1.out; have := hz12.out; have := hz15.out; have := hz16.out; omega))
          refine hK.out _ _ (HSF.out _ hbz) (fun hHeld => ?_)
          clear hK K hrun hown hgr hrow
          (try go_simp)
          refine takesH [8] (by kernel_rfl) (fun _ _ d _ _ h => by cases d <;> exact h) (by kernel_rfl) (by kernel_rfl) (by assumption) ?_
          repeat (first
            | (refine TakeSeq.cons (v := ?_) rfl (by rfl) ?_ ?_
               rotate_left
               · ((intro w hSw; unfold MdB at hSw; go_simp) <;> (try with_reducible rfl))
               (try go_simp))
            | (refine TakeSeq.skip rfl (by rfl) ?_; (try go_simp)))
          refine TakeSeq.nil ?_
          have u0 := HXR.cell (i := 0) rfl
          have t0 := HXR.free 0
          have u1 := HXR.cell (i := 1) rfl
          have t1 := HXR.free 1
          have u2 := HXR.cell (i := 2) rfl
          have t2 := HXR.free 2
          have u3 := HXR.cell (i := 3) rfl
          have t3 := HXR.free 3
          have u4 := HXR.cell (i := 4) rfl
          have t4 := HXR.free 4
          refine callH 9 (by kernel_rfl) (by kernel_rfl) rfl (by rfl) ?_
          intro K hK
          go_simp
          refine hK.out _ _ (HSF.out _ (below_put5 hbz (Nat.le_refl _) _ _ _ _ _)) (fun hHeld => ?_)
          clear hK K
          (try go_simp)
          refine doneH (by kernel_rfl) ?_
          go_wp2
          have hp := HXR.put5 (.slice adc M.inits.length cpc) (.int .i64 0) (.int .i64 0) (.slice (some ⟨V12.heap.size, 0, none⟩) M.events.length M.events.length) (.slice (some ⟨V1.heap.size, 0, none⟩) M.events.length M.events.length)
          refine bodyPost_ret (v := .agg #[.slice adc M.inits.length cpc, .int .i64 0, .int .i64 0, .slice (some ⟨V12.heap.size, 0, none⟩) M.events.length M.events.length, .slice (some ⟨V1.heap.size, 0, none⟩) M.events.length M.events.length]) (st_results hp rfl Tryz.f51 rfl) rfl ?_
          exact start_end HB1.out hbz ((Turned.refl HXR).put5 (.slice adc M.inits.length cpc) (.int .i64 0) (.int .i64 0) (.slice (some ⟨V12.heap.size, 0, none⟩) M.events.length M.events.length) (.slice (some ⟨V1.heap.size, 0, none⟩) M.events.length M.events.length)) hrc hcp (by have := hz1.out; have := hz12.out; have := hz15.out; have := hz16.out; omega) ho5 (by have := hz1.out; have := hz12.out; have := hz15.out; have := hz16.out; omega) ho7 (by have := hz1.out; have := hz12.out; have := hz15.out; have := hz16.out; omega) (by omega)
  · obtain ⟨V17, hv17, hbn, xn⟩ := box1 D (madeCells #[.int .i64 0] M.events.length) 3
    have hz17 : Hid (V17.heap.size = D.heap.size + 1) := by unfold Hid; rw [← hv17]; simp
    have ho5 := OwnI.made xn (by omega)
    have hlx := HXR.lt
    intro K hK
    go_simp
    replace HXR := HXR.keep hbn
    have hbz := hbz.trans (hbn.mono hbz.size)
    refine hK.out _ _ (HSF.out _ hbz) (fun hHeld => ?_)
    clear hK K hbn xn
    (try go_simp)
    refine callH2 0 7 (by kernel_rfl) (by kernel_rfl) rfl (by rfl) rfl (by rfl) ?_ ?_
    · obtain ⟨V18, hv18, hbn, xn⟩ := box1 V17 #[] 2
      have hz18 : Hid (V18.heap.size = V17.heap.size + 1) := by unfold Hid; rw [← hv18]; simp
      have hrow : V18.ownsRow V17.heap.size 2 1 (.slice (some ⟨V17.heap.size, 0, none⟩) 0 0) 0 [] := by rw [← hv18]; exact World.ownsRow_lit V17 #[] 0 (Nat.le_refl _) (Nat.zero_le _) rfl
      have hlx := HXR.lt
      intro K hK
      go_simp
      replace HXR := HXR.keep hbn
      replace ho5 := ho5.keep hbn
      have hbz := hbz.trans (hbn.mono hbz.size)
      refine hK.out _ _ (HSF.out _ hbz) (fun hHeld => ?_)
      clear hK K hbn xn
      (try go_simp)
      refine callH2 3 7 (by kernel_rfl) (by kernel_rfl) rfl (by rfl) rfl (by rfl) ?_ ?_
      · obtain ⟨va, V19, hrun, hown, hgr⟩ := append_reads (P := Tryz.prog) V18 23 23 2 (.int .i64 0) 8 V17.heap.size Tryz.underlying23 info_int64 rfl (by decide) _ 0 [] hrow _ _ (HIN.out _ hbz) (ints_one _) (by rw [ints_len]; have := HII.out; omega) (by have := hz17.out; have := hz18.out; omega)
        rw [ownB] at hgr
        rw [ints_len, Nat.zero_add, List.nil_append] at hown
        obtain ⟨adc, cpc, eva, hrc, hcp⟩ := own_row hown
        subst eva
        have hlx := HXR.lt
        have hz19 : Hid (V18.heap.size ≤ V19.heap.size) := hgr.size
        intro K hK
        refine app_hand _ _ _ _ rfl _ _ rfl rfl _ _ hrun ?_
        replace HXR := HXR.grown hgr (by simp only [ne_eq, Option.some.injEq]; exact (by have := hz17.out; have := hz18.out; have := hz19.out; omega))
        replace ho5 := ho5.grown hgr (by simp only [ne_eq, Option.some.injEq]; exact (by have := hz17.out; have := hz18.out; have := hz19.out; omega))
        have hbz : Below W1.heap.size W1 V19 := hbz.grown hgr hbz.size (fun k e => by cases e; exact (by have := hz17.out; have := hz18.out; have := hz19.out; omega))
        refine hK.out _ _ (HSF.out _ hbz) (fun hHeld => ?_)
        clear hK K hrun hown hgr hrow
        (try go_simp)
        refine callH 7 (by kernel_rfl) (by kernel_rfl) rfl (by rfl) ?_
        · obtain ⟨V20, hv20, hbn, xn⟩ := box1 V19 (madeCells #[.int .i64 0] M.events.length) 3
          have hz20 : Hid (V20.heap.size = V19.heap.size + 1) := by unfold Hid; rw [← hv20]; simp
          have ho7 := OwnI.made xn (by omega)
          have hlx := HXR.lt
          intro K hK
          go_simp
          replace HXR := HXR.keep hbn
          replace ho5 := ho5.keep hbn
          replace hrc := hrc.keep hbn
          have hbz := hbz.trans (hbn.mono hbz.size)
          refine hK.out _ _ (HSF.out _ hbz) (fun hHeld => ?_)
          clear hK K hbn xn
          (try go_simp)
          refine takesH [8] (by kernel_rfl) (fun _ _ d _ _ h => by cases d <;> exact h) (by kernel_rfl) (by kernel_rfl) (by assumption) ?_
          repeat (first
            | (refine TakeSeq.cons (v := ?_) rfl (by rfl) ?_ ?_
               rotate_left
               · ((intro w hSw; unfold MdB at hSw; go_simp) <;> (try with_reducible rfl))
               (try go_simp))
            | (refine TakeSeq.skip rfl (by rfl) ?_; (try go_simp)))
          refine TakeSeq.nil ?_
          have u0 := HXR.cell (i := 0) rfl
          have t0 := HXR.free 0
          have u1 := HXR.cell (i := 1) rfl
          have t1 := HXR.free 1
          have u2 := HXR.cell (i := 2) rfl
          have t2 := HXR.free 2
          have u3 := HXR.cell (i := 3) rfl
          have t3 := HXR.free 3
          have u4 := HXR.cell (i := 4) rfl
          have t4 := HXR.free 4
          refine callH 9 (by kernel_rfl) (by kernel_rfl) rfl (by rfl) ?_
          intro K hK
          go_simp
          refine hK.out _ _ (HSF.out _ (below_put5 hbz (Nat.le_refl _) _ _ _ _ _)) (fun hHeld => ?_)
          clear hK K
          (try go_simp)
          refine doneH (by kernel_rfl) ?_
          go_wp2
          have hp := HXR.put5 (.slice adc M.inits.length cpc) (.int .i64 0) (.int .i64 0) (.slice (some ⟨D.heap.size, 0, none⟩) M.events.length M.events.length) (.slice (some ⟨V19.heap.size, 0, none⟩) M.events.length M.events.length)
          refine bodyPost_ret (v := .agg #[.slice adc M.inits.length cpc, .int .i64 0, .int .i64 0, .slice (some ⟨D.heap.size, 0, none⟩) M.events.length M.events.length, .slice (some ⟨V19.heap.size, 0, none⟩) M.events.length M.events.length]) (st_results hp rfl Tryz.f51 rfl) rfl ?_
          exact start_end HB1.out hbz ((Turned.refl HXR).put5 (.slice adc M.inits.length cpc) (.int .i64 0) (.int .i64 0) (.slice (some ⟨D.heap.size, 0, none⟩) M.events.length M.events.length) (.slice (some ⟨V19.heap.size, 0, none⟩) M.events.length M.events.length)) hrc hcp (by have := hz17.out; have := hz18.out; have := hz19.out; have := hz20.out; omega) ho5 (by have := hz17.out; have := hz18.out; have := hz19.out; have := hz20.out; omega) ho7 (by have := hz17.out; have := hz18.out; have := hz19.out; have := hz20.out; omega) (by omega)
      · obtain ⟨V21, hv21, hbn, xn⟩ := box1 V18 (madeCells #[.int .i64 0] M.events.length) 3
        have hz21 : Hid (V21.heap.size = V18.heap.size + 1) := by unfold Hid; rw [← hv21]; simp
        have ho7 := OwnI.made xn (by omega)
        have hlx := HXR.lt
        intro K hK
        go_simp
        replace HXR := HXR.keep hbn
        replace ho5 := ho5.keep hbn
        replace hrow := owns_below hrow hbn
        have hbz := hbz.trans (hbn.mono hbz.size)
        refine hK.out _ _ (HSF.out _ hbz) (fun hHeld => ?_)
        clear hK K hbn xn
        (try go_simp)
        refine callH 3 (by kernel_rfl) (by kernel_rfl) rfl (by rfl) ?_
        · obtain ⟨va, V22, hrun, hown, hgr⟩ := append_reads (P := Tryz.prog) V21 23 23 2 (.int .i64 0) 8 V17.heap.size Tryz.underlying23 info_int64 rfl (by decide) _ 0 [] hrow _ _ (HIN.out _ hbz) (ints_one _) (by rw [ints_len]; have := HII.out; omega) (by have := hz17.out; have := hz18.out; have := hz21.out; omega)
          rw [ownB] at hgr
          rw [ints_len, Nat.zero_add, List.nil_append] at hown
          obtain ⟨adc, cpc, eva, hrc, hcp⟩ := own_row hown
          subst eva
          have hlx := HXR.lt
          have hz22 : Hid (V21.heap.size ≤ V22.heap.size) := hgr.size
          intro K hK
          refine app_hand _ _ _ _ rfl _ _ rfl rfl _ _ hrun ?_
          replace HXR := HXR.grown hgr (by simp only [ne_eq, Option.some.injEq]; exact (by have := hz17.out; have := hz18.out; have := hz21.out; have := hz22.out; omega))
          replace ho5 := ho5.grown hgr (by simp only [ne_eq, Option.some.injEq]; exact (by have := hz17.out; have := hz18.out; have := hz21.out; have := hz22.out; omega))
          replace ho7 := ho7.grown hgr (by simp only [ne_eq, Option.some.injEq]; exact (by have := hz17.out; have := hz18.out; have := hz21.out; have := hz22.out; omega))
          have hbz : Below W1.heap.size W1 V22 := hbz.grown hgr hbz.size (fun k e => by cases e; exact (by have := hz17.out; have := hz18.out; have := hz21.out; have := hz22.out; omega))
          refine hK.out _ _ (HSF.out _ hbz) (fun hHeld => ?_)
          clear hK K hrun hown hgr hrow
          (try go_simp)
          refine takesH [8] (by kernel_rfl) (fun _ _ d _ _ h => by cases d <;> exact h) (by kernel_rfl) (by kernel_rfl) (by assumption) ?_
          repeat (first
            | (refine TakeSeq.cons (v := ?_) rfl (by rfl) ?_ ?_
               rotate_left
               · ((intro w hSw; unfold MdB at hSw; go_simp) <;> (try with_reducible rfl))
               (try go_simp))
            | (refine TakeSeq.skip rfl (by rfl) ?_; (try go_simp)))
          refine TakeSeq.nil ?_
          have u0 := HXR.cell (i := 0) rfl
          have t0 := HXR.free 0
          have u1 := HXR.cell (i := 1) rfl
          have t1 := HXR.free 1
          have u2 := HXR.cell (i := 2) rfl
          have t2 := HXR.free 2
          have u3 := HXR.cell (i := 3) rfl
          have t3 := HXR.free 3
          have u4 := HXR.cell (i := 4) rfl
          have t4 := HXR.free 4
          refine callH 9 (by kernel_rfl) (by kernel_rfl) rfl (by rfl) ?_
          intro K hK
          go_simp
          refine hK.out _ _ (HSF.out _ (below_put5 hbz (Nat.le_refl _) _ _ _ _ _)) (fun hHeld => ?_)
          clear hK K
          (try go_simp)
          refine doneH (by kernel_rfl) ?_
          go_wp2
          have hp := HXR.put5 (.slice adc M.inits.length cpc) (.int .i64 0) (.int .i64 0) (.slice (some ⟨D.heap.size, 0, none⟩) M.events.length M.events.length) (.slice (some ⟨V18.heap.size, 0, none⟩) M.events.length M.events.length)
          refine bodyPost_ret (v := .agg #[.slice adc M.inits.length cpc, .int .i64 0, .int .i64 0, .slice (some ⟨D.heap.size, 0, none⟩) M.events.length M.events.length, .slice (some ⟨V18.heap.size, 0, none⟩) M.events.length M.events.length]) (st_results hp rfl Tryz.f51 rfl) rfl ?_
          exact start_end HB1.out hbz ((Turned.refl HXR).put5 (.slice adc M.inits.length cpc) (.int .i64 0) (.int .i64 0) (.slice (some ⟨D.heap.size, 0, none⟩) M.events.length M.events.length) (.slice (some ⟨V18.heap.size, 0, none⟩) M.events.length M.events.length)) hrc hcp (by have := hz17.out; have := hz18.out; have := hz21.out; have := hz22.out; omega) ho5 (by have := hz17.out; have := hz18.out; have := hz21.out; have := hz22.out; omega) ho7 (by have := hz17.out; have := hz18.out; have := hz21.out; have := hz22.out; omega) (by omega)
    · obtain ⟨V23, hv23, hbn, xn⟩ := box1 V17 (madeCells #[.int .i64 0] M.events.length) 3
      have hz23 : Hid (V23.heap.size = V17.heap.size + 1) := by unfold Hid; rw [← hv23]; simp
      have ho7 := OwnI.made xn (by omega)
      have hlx := HXR.lt
      intro K hK
      go_simp
      replace HXR := HXR.keep hbn
      replace ho5 := ho5.keep hbn
      have hbz := hbz.trans (hbn.mono hbz.size)
      refine hK.out _ _ (HSF.out _ hbz) (fun hHeld => ?_)
      clear hK K hbn xn
      (try go_simp)
      refine callH 0 (by kernel_rfl) (by kernel_rfl) rfl (by rfl) ?_
      · obtain ⟨V24, hv24, hbn, xn⟩ := box1 V23 #[] 2
        have hz24 : Hid (V24.heap.size = V23.heap.size + 1) := by unfold Hid; rw [← hv24]; simp
        have hrow : V24.ownsRow V23.heap.size 2 1 (.slice (some ⟨V23.heap.size, 0, none⟩) 0 0) 0 [] := by rw [← hv24]; exact World.ownsRow_lit V23 #[] 0 (Nat.le_refl _) (Nat.zero_le _) rfl
        have hlx := HXR.lt
        intro K hK
        go_simp
        replace HXR := HXR.keep hbn
        replace ho5 := ho5.keep hbn
        replace ho7 := ho7.keep hbn
        have hbz := hbz.trans (hbn.mono hbz.size)
        refine hK.out _ _ (HSF.out _ hbz) (fun hHeld => ?_)
        clear hK K hbn xn
        (try go_simp)
        refine callH 3 (by kernel_rfl) (by kernel_rfl) rfl (by rfl) ?_
        · obtain ⟨va, V25, hrun, hown, hgr⟩ := append_reads (P := Tryz.prog) V24 23 23 2 (.int .i64 0) 8 V23.heap.size Tryz.underlying23 info_int64 rfl (by decide) _ 0 [] hrow _ _ (HIN.out _ hbz) (ints_one _) (by rw [ints_len]; have := HII.out; omega) (by have := hz17.out; have := hz23.out; have := hz24.out; omega)
          rw [ownB] at hgr
          rw [ints_len, Nat.zero_add, List.nil_append] at hown
          obtain ⟨adc, cpc, eva, hrc, hcp⟩ := own_row hown
          subst eva
          have hlx := HXR.lt
          have hz25 : Hid (V24.heap.size ≤ V25.heap.size) := hgr.size
          intro K hK
          refine app_hand _ _ _ _ rfl _ _ rfl rfl _ _ hrun ?_
          replace HXR := HXR.grown hgr (by simp only [ne_eq, Option.some.injEq]; exact (by have := hz17.out; have := hz23.out; have := hz24.out; have := hz25.out; omega))
          replace ho5 := ho5.grown hgr (by simp only [ne_eq, Option.some.injEq]; exact (by have := hz17.out; have := hz23.out; have := hz24.out; have := hz25.out; omega))
          replace ho7 := ho7.grown hgr (by simp only [ne_eq, Option.some.injEq]; exact (by have := hz17.out; have := hz23.out; have := hz24.out; have := hz25.out; omega))
          have hbz : Below W1.heap.size W1 V25 := hbz.grown hgr hbz.size (fun k e => by cases e; exact (by have := hz17.out; have := hz23.out; have := hz24.out; have := hz25.out; omega))
          refine hK.out _ _ (HSF.out _ hbz) (fun hHeld => ?_)
          clear hK K hrun hown hgr hrow
          (try go_simp)
          refine takesH [8] (by kernel_rfl) (fun _ _ d _ _ h => by cases d <;> exact h) (by kernel_rfl) (by kernel_rfl) (by assumption) ?_
          repeat (first
            | (refine TakeSeq.cons (v := ?_) rfl (by rfl) ?_ ?_
               rotate_left
               · ((intro w hSw; unfold MdB at hSw; go_simp) <;> (try with_reducible rfl))
               (try go_simp))
            | (refine TakeSeq.skip rfl (by rfl) ?_; (try go_simp)))
          refine TakeSeq.nil ?_
          have u0 := HXR.cell (i := 0) rfl
          have t0 := HXR.free 0
          have u1 := HXR.cell (i := 1) rfl
          have t1 := HXR.free 1
          have u2 := HXR.cell (i := 2) rfl
          have t2 := HXR.free 2
          have u3 := HXR.cell (i := 3) rfl
          have t3 := HXR.free 3
          have u4 := HXR.cell (i := 4) rfl
          have t4 := HXR.free 4
          refine callH 9 (by kernel_rfl) (by kernel_rfl) rfl (by rfl) ?_
          intro K hK
          go_simp
          refine hK.out _ _ (HSF.out _ (below_put5 hbz (Nat.le_refl _) _ _ _ _ _)) (fun hHeld => ?_)
          clear hK K
          (try go_simp)
          refine doneH (by kernel_rfl) ?_
          go_wp2
          have hp := HXR.put5 (.slice adc M.inits.length cpc) (.int .i64 0) (.int .i64 0) (.slice (some ⟨D.heap.size, 0, none⟩) M.events.length M.events.length) (.slice (some ⟨V17.heap.size, 0, none⟩) M.events.length M.events.length)
          refine bodyPost_ret (v := .agg #[.slice adc M.inits.length cpc, .int .i64 0, .int .i64 0, .slice (some ⟨D.heap.size, 0, none⟩) M.events.length M.events.length, .slice (some ⟨V17.heap.size, 0, none⟩) M.events.length M.events.length]) (st_results hp rfl Tryz.f51 rfl) rfl ?_
          exact start_end HB1.out hbz ((Turned.refl HXR).put5 (.slice adc M.inits.length cpc) (.int .i64 0) (.int .i64 0) (.slice (some ⟨D.heap.size, 0, none⟩) M.events.length M.events.length) (.slice (some ⟨V17.heap.size, 0, none⟩) M.events.length M.events.length)) hrc hcp (by have := hz17.out; have := hz23.out; have := hz24.out; have := hz25.out; omega) ho5 (by have := hz17.out; have := hz23.out; have := hz24.out; have := hz25.out; omega) ho7 (by have := hz17.out; have := hz23.out; have := hz24.out; have := hz25.out; omega) (by omega)
  · obtain ⟨V26, hv26, hbn, xn⟩ := box1 D (madeCells #[.int .i64 0] M.events.length) 3
    have hz26 : Hid (V26.heap.size = D.heap.size + 1) := by unfold Hid; rw [← hv26]; simp
    have ho7 := OwnI.made xn (by omega)
    have hlx := HXR.lt
    intro K hK
    go_simp
    replace HXR := HXR.keep hbn
    have hbz := hbz.trans (hbn.mono hbz.size)
    refine hK.out _ _ (HSF.out _ hbz) (fun hHeld => ?_)
    clear hK K hbn xn
    (try go_simp)
    refine callH2 0 5 (by kernel_rfl) (by kernel_rfl) rfl (by rfl) rfl (by rfl) ?_ ?_
    · obtain ⟨V27, hv27, hbn, xn⟩ := box1 V26 #[] 2
      have hz27 : Hid (V27.heap.size = V26.heap.size + 1) := by unfold Hid; rw [← hv27]; simp
      have hrow : V27.ownsRow V26.heap.size 2 1 (.slice (some ⟨V26.heap.size, 0, none⟩) 0 0) 0 [] := by rw [← hv27]; exact World.ownsRow_lit V26 #[] 0 (Nat.le_refl _) (Nat.zero_le _) rfl
      have hlx := HXR.lt
      intro K hK
      go_simp
      replace HXR := HXR.keep hbn
      replace ho7 := ho7.keep hbn
      have hbz := hbz.trans (hbn.mono hbz.size)
      refine hK.out _ _ (HSF.out _ hbz) (fun hHeld => ?_)
      clear hK K hbn xn
      (try go_simp)
      refine callH2 3 5 (by kernel_rfl) (by kernel_rfl) rfl (by rfl) rfl (by rfl) ?_ ?_
      · obtain ⟨va, V28, hrun, hown, hgr⟩ := append_reads (P := Tryz.prog) V27 23 23 2 (.int .i64 0) 8 V26.heap.size Tryz.underlying23 info_int64 rfl (by decide) _ 0 [] hrow _ _ (HIN.out _ hbz) (ints_one _) (by rw [ints_len]; have := HII.out; omega) (by have := hz26.out; have := hz27.out; omega)
        rw [ownB] at hgr
        rw [ints_len, Nat.zero_add, List.nil_append] at hown
        obtain ⟨adc, cpc, eva, hrc, hcp⟩ := own_row hown
        subst eva
        have hlx := HXR.lt
        have hz28 : Hid (V27.heap.size ≤ V28.heap.size) := hgr.size
        intro K hK
        refine app_hand _ _ _ _ rfl _ _ rfl rfl _ _ hrun ?_
        replace HXR := HXR.grown hgr (by simp only [ne_eq, Option.some.injEq]; exact (by have := hz26.out; have := hz27.out; have := hz28.out; omega))
        replace ho7 := ho7.grown hgr (by simp only [ne_eq, Option.some.injEq]; exact (by have := hz26.out; have := hz27.out; have := hz28.out; omega))
        have hbz : Below W1.heap.size W1 V28 := hbz.grown hgr hbz.size (fun k e => by cases e; exact (by have := hz26.out; have := hz27.out; have := hz28.out; omega))
        refine hK.out _ _ (HSF.out _ hbz) (fun hHeld => ?_)
        clear hK K hrun hown hgr hrow
        (try go_simp)
        refine callH 5 (by kernel_rfl) (by kernel_rfl) rfl (by rfl) ?_
        · obtain ⟨V29, hv29, hbn, xn⟩ := box1 V28 (madeCells #[.int .i64 0] M.events.length) 3
          have hz29 : Hid (V29.heap.size = V28.heap.size + 1) := by unfold Hid; rw [← hv29]; simp
          have ho5 := OwnI.made xn (by omega)
          have hlx := HXR.lt
          intro K hK
          go_simp
          replace HXR := HXR.keep hbn
          replace ho7 := ho7.keep hbn
          replace hrc := hrc.keep hbn
          have hbz := hbz.trans (hbn.mono hbz.size)
          refine hK.out _ _ (HSF.out _ hbz) (fun hHeld => ?_)
          clear hK K hbn xn
          (try go_simp)
          refine takesH [8] (by kernel_rfl) (fun _ _ d _ _ h => by cases d <;> exact h) (by kernel_rfl) (by kernel_rfl) (by assumption) ?_
          repeat (first
            | (refine TakeSeq.cons (v := ?_) rfl (by rfl) ?_ ?_
               rotate_left
               · ((intro w hSw; unfold MdB at hSw; go_simp) <;> (try with_reducible rfl))
               (try go_simp))
            | (refine TakeSeq.skip rfl (by rfl) ?_; (try go_simp)))
          refine TakeSeq.nil ?_
          have u0 := HXR.cell (i := 0) rfl
          have t0 := HXR.free 0
          have u1 := HXR.cell (i := 1) rfl
          have t1 := HXR.free 1
          have u2 := HXR.cell (i := 2) rfl
          have t2 := HXR.free 2
          have u3 := HXR.cell (i := 3) rfl
          have t3 := HXR.free 3
          have u4 := HXR.cell (i := 4) rfl
          have t4 := HXR.free 4
          refine callH 9 (by kernel_rfl) (by kernel_rfl) rfl (by rfl) ?_
          intro K hK
          go_simp
          refine hK.out _ _ (HSF.out _ (below_put5 hbz (Nat.le_refl _) _ _ _ _ _)) (fun hHeld => ?_)
          clear hK K
          (try go_simp)
          refine doneH (by kernel_rfl) ?_
          go_wp2
          have hp := HXR.put5 (.slice adc M.inits.length cpc) (.int .i64 0) (.int .i64 0) (.slice (some ⟨V28.heap.size, 0, none⟩) M.events.length M.events.length) (.slice (some ⟨D.heap.size, 0, none⟩) M.events.length M.events.length)
          refine bodyPost_ret (v := .agg #[.slice adc M.inits.length cpc, .int .i64 0, .int .i64 0, .slice (some ⟨V28.heap.size, 0, none⟩) M.events.length M.events.length, .slice (some ⟨D.heap.size, 0, none⟩) M.events.length M.events.length]) (st_results hp rfl Tryz.f51 rfl) rfl ?_
          exact start_end HB1.out hbz ((Turned.refl HXR).put5 (.slice adc M.inits.length cpc) (.int .i64 0) (.int .i64 0) (.slice (some ⟨V28.heap.size, 0, none⟩) M.events.length M.events.length) (.slice (some ⟨D.heap.size, 0, none⟩) M.events.length M.events.length)) hrc hcp (by have := hz26.out; have := hz27.out; have := hz28.out; have := hz29.out; omega) ho5 (by have := hz26.out; have := hz27.out; have := hz28.out; have := hz29.out; omega) ho7 (by have := hz26.out; have := hz27.out; have := hz28.out; have := hz29.out; omega) (by omega)
      · obtain ⟨V30, hv30, hbn, xn⟩ := box1 V27 (madeCells #[.int .i64 0] M.events.length) 3
        have hz30 : Hid (V30.heap.size = V27.heap.size + 1) := by unfold Hid; rw [← hv30]; simp
        have ho5 := OwnI.made xn (by omega)
        have hlx := HXR.lt
        intro K hK
        go_simp
        replace HXR := HXR.keep hbn
        replace ho7 := ho7.keep hbn
        replace hrow := owns_below hrow hbn
        have hbz := hbz.trans (hbn.mono hbz.size)
        refine hK.out _ _ (HSF.out _ hbz) (fun hHeld => ?_)
        clear hK K hbn xn
        (try go_simp)
        refine callH 3 (by kernel_rfl) (by kernel_rfl) rfl (by rfl) ?_
        · obtain ⟨va, V31, hrun, hown, hgr⟩ := append_reads (P := Tryz.prog) V30 23 23 2 (.int .i64 0) 8 V26.heap.size Tryz.underlying23 info_int64 rfl (by decide) _ 0 [] hrow _ _ (HIN.out _ hbz) (ints_one _) (by rw [ints_len]; have := HII.out; omega) (by have := hz26.out; have := hz27.out; have := hz30.out; omega)
          rw [ownB] at hgr
          rw [ints_len, Nat.zero_add, List.nil_append] at hown
          obtain ⟨adc, cpc, eva, hrc, hcp⟩ := own_row hown
          subst eva
          have hlx := HXR.lt
          have hz31 : Hid (V30.heap.size ≤ V31.heap.size) := hgr.size
          intro K hK
          refine app_hand _ _ _ _ rfl _ _ rfl rfl _ _ hrun ?_
          replace HXR := HXR.grown hgr (by simp only [ne_eq, Option.some.injEq]; exact (by have := hz26.out; have := hz27.out; have := hz30.out; have := hz31.out; omega))
          replace ho7 := ho7.grown hgr (by simp only [ne_eq, Option.some.injEq]; exact (by have := hz26.out; have := hz27.out; have := hz30.out; have := hz31.out; omega))
          replace ho5 := ho5.grown hgr (by simp only [ne_eq, Option.some.injEq]; exact (by have := hz26.out; have := hz27.out; have := hz30.out; have := hz31.out; omega))
          have hbz : Below W1.heap.size W1 V31 := hbz.grown hgr hbz.size (fun k e => by cases e; exact (by have := hz26.out; have := hz27.out; have := hz30.out; have := hz31.out; omega))
          refine hK.out _ _ (HSF.out _ hbz) (fun hHeld => ?_)
          clear hK K hrun hown hgr hrow
          (try go_simp)
          refine takesH [8] (by kernel_rfl) (fun _ _ d _ _ h => by cases d <;> exact h) (by kernel_rfl) (by kernel_rfl) (by assumption) ?_
          repeat (first
            | (refine TakeSeq.cons (v := ?_) rfl (by rfl) ?_ ?_
               rotate_left
               · ((intro w hSw; unfold MdB at hSw; go_simp) <;> (try with_reducible rfl))
               (try go_simp))
            | (refine TakeSeq.skip rfl (by rfl) ?_; (try go_simp)))
          refine TakeSeq.nil ?_
          have u0 := HXR.cell (i := 0) rfl
          have t0 := HXR.free 0
          have u1 := HXR.cell (i := 1) rfl
          have t1 := HXR.free 1
          have u2 := HXR.cell (i := 2) rfl
          have t2 := HXR.free 2
          have u3 := HXR.cell (i := 3) rfl
          have t3 := HXR.free 3
          have u4 := HXR.cell (i := 4) rfl
          have t4 := HXR.free 4
          refine callH 9 (by kernel_rfl) (by kernel_rfl) rfl (by rfl) ?_
          intro K hK
          go_simp
          refine hK.out _ _ (HSF.out _ (below_put5 hbz (Nat.le_refl _) _ _ _ _ _)) (fun hHeld => ?_)
          clear hK K
          (try go_simp)
          refine doneH (by kernel_rfl) ?_
          go_wp2
          have hp := HXR.put5 (.slice adc M.inits.length cpc) (.int .i64 0) (.int .i64 0) (.slice (some ⟨V27.heap.size, 0, none⟩) M.events.length M.events.length) (.slice (some ⟨D.heap.size, 0, none⟩) M.events.length M.events.length)
          refine bodyPost_ret (v := .agg #[.slice adc M.inits.length cpc, .int .i64 0, .int .i64 0, .slice (some ⟨V27.heap.size, 0, none⟩) M.events.length M.events.length, .slice (some ⟨D.heap.size, 0, none⟩) M.events.length M.events.length]) (st_results hp rfl Tryz.f51 rfl) rfl ?_
          exact start_end HB1.out hbz ((Turned.refl HXR).put5 (.slice adc M.inits.length cpc) (.int .i64 0) (.int .i64 0) (.slice (some ⟨V27.heap.size, 0, none⟩) M.events.length M.events.length) (.slice (some ⟨D.heap.size, 0, none⟩) M.events.length M.events.length)) hrc hcp (by have := hz26.out; have := hz27.out; have := hz30.out; have := hz31.out; omega) ho5 (by have := hz26.out; have := hz27.out; have := hz30.out; have := hz31.out; omega) ho7 (by have := hz26.out; have := hz27.out; have := hz30.out; have := hz31.out; omega) (by omega)
    · obtain ⟨V32, hv32, hbn, xn⟩ := box1 V26 (madeCells #[.int .i64 0] M.events.length) 3
      have hz32 : Hid (V32.heap.size = V26.heap.size + 1) := by unfold Hid; rw [← hv32]; simp
      have ho5 := OwnI.made xn (by omega)
      have hlx := HXR.lt
      intro K hK
      go_simp
      replace HXR := HXR.keep hbn
      replace ho7 := ho7.keep hbn
      have hbz := hbz.trans (hbn.mono hbz.size)
      refine hK.out _ _ (HSF.out _ hbz) (fun hHeld => ?_)
      clear hK K hbn xn
      (try go_simp)
      refine callH 0 (by kernel_rfl) (by kernel_rfl) rfl (by rfl) ?_
      · obtain ⟨V33, hv33, hbn, xn⟩ := box1 V32 #[] 2
        have hz33 : Hid (V33.heap.size = V32.heap.size + 1) := by unfold Hid; rw [← hv33]; simp
        have hrow : V33.ownsRow V32.heap.size 2 1 (.slice (some ⟨V32.heap.size, 0, none⟩) 0 0) 0 [] := by rw [← hv33]; exact World.ownsRow_lit V32 #[] 0 (Nat.le_refl _) (Nat.zero_le _) rfl
        have hlx := HXR.lt
        intro K hK
        go_simp
        replace HXR := HXR.keep hbn
        replace ho7 := ho7.keep hbn
        replace ho5 := ho5.keep hbn
        have hbz := hbz.trans (hbn.mono hbz.size)
        refine hK.out _ _ (HSF.out _ hbz) (fun hHeld => ?_)
        clear hK K hbn xn
        (try go_simp)
        refine callH 3 (by kernel_rfl) (by kernel_rfl) rfl (by rfl) ?_
        · obtain ⟨va, V34, hrun, hown, hgr⟩ := append_reads (P := Tryz.prog) V33 23 23 2 (.int .i64 0) 8 V32.heap.size Tryz.underlying23 info_int64 rfl (by decide) _ 0 [] hrow _ _ (HIN.out _ hbz) (ints_one _) (by rw [ints_len]; have := HII.out; omega) (by have := hz26.out; have := hz32.out; have := hz33.out; omega)
          rw [ownB] at hgr
          rw [ints_len, Nat.zero_add, List.nil_append] at hown
          obtain ⟨adc, cpc, eva, hrc, hcp⟩ := own_row hown
          subst eva
          have hlx := HXR.lt
          have hz34 : Hid (V33.heap.size ≤ V34.heap.size) := hgr.size
          intro K hK
          refine app_hand _ _ _ _ rfl _ _ rfl rfl _ _ hrun ?_
          replace HXR := HXR.grown hgr (by simp only [ne_eq, Option.some.injEq]; exact (by have := hz26.out; have := hz32.out; have := hz33.out; have := hz34.out; omega))
          replace ho7 := ho7.grown hgr (by simp only [ne_eq, Option.some.injEq]; exact (by have := hz26.out; have := hz32.out; have := hz33.out; have := hz34.out; omega))
          replace ho5 := ho5.grown hgr (by simp only [ne_eq, Option.some.injEq]; exact (by have := hz26.out; have := hz32.out; have := hz33.out; have := hz34.out; omega))
          have hbz : Below W1.heap.size W1 V34 := hbz.grown hgr hbz.size (fun k e => by cases e; exact (by have := hz26.out; have := hz32.out; have := hz33.out; have := hz34.out; omega))
          refine hK.out _ _ (HSF.out _ hbz) (fun hHeld => ?_)
          clear hK K hrun hown hgr hrow
          (try go_simp)
          refine takesH [8] (by kernel_rfl) (fun _ _ d _ _ h => by cases d <;> exact h) (by kernel_rfl) (by kernel_rfl) (by assumption) ?_
          repeat (first
            | (refine TakeSeq.cons (v := ?_) rfl (by rfl) ?_ ?_
               rotate_left
               · ((intro w hSw; unfold MdB at hSw; go_simp) <;> (try with_reducible rfl))
               (try go_simp))
            | (refine TakeSeq.skip rfl (by rfl) ?_; (try go_simp)))
          refine TakeSeq.nil ?_
          have u0 := HXR.cell (i := 0) rfl
          have t0 := HXR.free 0
          have u1 := HXR.cell (i := 1) rfl
          have t1 := HXR.free 1
          have u2 := HXR.cell (i := 2) rfl
          have t2 := HXR.free 2
          have u3 := HXR.cell (i := 3) rfl
          have t3 := HXR.free 3
          have u4 := HXR.cell (i := 4) rfl
          have t4 := HXR.free 4
          refine callH 9 (by kernel_rfl) (by kernel_rfl) rfl (by rfl) ?_
          intro K hK
          go_simp
          refine hK.out _ _ (HSF.out _ (below_put5 hbz (Nat.le_refl _) _ _ _ _ _)) (fun hHeld => ?_)
          clear hK K
          (try go_simp)
          refine doneH (by kernel_rfl) ?_
          go_wp2
          have hp := HXR.put5 (.slice adc M.inits.length cpc) (.int .i64 0) (.int .i64 0) (.slice (some ⟨V26.heap.size, 0, none⟩) M.events.length M.events.length) (.slice (some ⟨D.heap.size, 0, none⟩) M.events.length M.events.length)
          refine bodyPost_ret (v := .agg #[.slice adc M.inits.length cpc, .int .i64 0, .int .i64 0, .slice (some ⟨V26.heap.size, 0, none⟩) M.events.length M.events.length, .slice (some ⟨D.heap.size, 0, none⟩) M.events.length M.events.length]) (st_results hp rfl Tryz.f51 rfl) rfl ?_
          exact start_end HB1.out hbz ((Turned.refl HXR).put5 (.slice adc M.inits.length cpc) (.int .i64 0) (.int .i64 0) (.slice (some ⟨V26.heap.size, 0, none⟩) M.events.length M.events.length) (.slice (some ⟨D.heap.size, 0, none⟩) M.events.length M.events.length)) hrc hcp (by have := hz26.out; have := hz32.out; have := hz33.out; have := hz34.out; omega) ho5 (by have := hz26.out; have := hz32.out; have := hz33.out; have := hz34.out; omega) ho7 (by have := hz26.out; have := hz32.out; have := hz33.out; have := hz34.out; omega) (by omega)
end Go.Proofs.YtadjnfpomjopkaaGreat
