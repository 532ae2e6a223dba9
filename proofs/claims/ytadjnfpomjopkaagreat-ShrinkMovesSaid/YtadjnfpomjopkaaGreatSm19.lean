/- step: idle, May (printed by gen_my.py). slices.Clone of numbers, step.own (printed by gen_cl.py). -/
import Derived.Test.YtadjnfpomjopkaaGreatSm18
import Derived.Laws.OwnMore
import Derived.Lib.SliceRun

namespace Go.Proofs.YtadjnfpomjopkaaGreat
open Go.RowKit

set_option maxRecDepth 100000 in
set_option maxHeartbeats 1000000 in
theorem idleQ {w : World} (v : Mv) (ad : Option Addr) (cp : Nat) :
    Calls Tryz.prog 67 #[.agg #[.int .i64 v.event, .int .i64 v.user, .slice ad v.vals.length cp]] w (Ret w (.bool (idlM v))) := by
  obtain ⟨W1, h1, hb1, x1⟩ := box1 w #[.int .i64 v.event, .int .i64 v.user, .slice ad v.vals.length cp] 58
  have c0 := x1.cell (i := 0) rfl
  have c1 := x1.cell (i := 1) rfl
  have c2 := x1.cell (i := 2) rfl
  obtain ⟨n, hn⟩ : ∃ n, v.vals.length = n := ⟨_, rfl⟩
  have HI : Hid (idlM v = (decide (v.event = -1) && decide (v.user = -1) && decide (n = 0))) := by unfold Hid idlM; rw [hn]
  rw [hn] at h1 c2 x1 ⊢
  clear hn
  by_cases p1 : v.event = -1
  · have d1 : (v.event == -1) = true := by simp [p1]
    rw [decide_eq_true p1] at HI
    clear p1
    by_cases p2 : v.user = -1
    · have d2 : (v.user == -1) = true := by simp [p2]
      rw [decide_eq_true p2] at HI
      clear p2
      by_cases p3 : n = 0
      · have HR : Hid (idlM v = true) := by unfold Hid; rw [HI.out, decide_eq_true p3]; rfl
        subst p3
        go_enter Tryz.func67, Tryz.ntmps67
        go_wp2
        go_ret
        exact ⟨ret_bool HR.out.symm, hb1⟩
      · have HR : Hid (idlM v = false) := by unfold Hid; rw [HI.out, decide_eq_false p3]; rfl
        have d3 : ((n : Int) == 0) = false := by rw [beq_eq_false_iff_ne]; omega
        clear p3
        go_enter Tryz.func67, Tryz.ntmps67
        go_wp2
        go_ret
        exact ⟨ret_bool HR.out.symm, hb1⟩
    · have d2 : (v.user == -1) = false := by rw [beq_eq_false_iff_ne]; exact p2
      have HR : Hid (idlM v = false) := by unfold Hid; rw [HI.out, decide_eq_false p2]; rfl
      clear p2
      go_enter Tryz.func67, Tryz.ntmps67
      go_wp2
      go_ret
      exact ⟨ret_bool HR.out.symm, hb1⟩
  · have d1 : (v.event == -1) = false := by rw [beq_eq_false_iff_ne]; exact p1
    have HR : Hid (idlM v = false) := by unfold Hid; rw [HI.out, decide_eq_false p1]; rfl
    clear p1
    go_enter Tryz.func67, Tryz.ntmps67
    go_wp2
    go_ret
    exact ⟨ret_bool HR.out.symm, hb1⟩
theorem enabS_in {M : Mdl} {s : Sta} {e u : Int} (h : enabS M s e u = true) : inM e M.events.length = true := by
  unfold enabS freeS at h
  simp only [Bool.and_eq_true] at h
  exact h.1.1.1

set_option maxRecDepth 100000 in
set_option maxHeartbeats 4000000 in
theorem mayQ {w : World} {q : Mem} {M : Mdl} {r : Stm} {s : Sta} (hm : MdQ w q M) (hs : StQ w r s) (v : Mv) (ad : Option Addr) (cp : Nat) :
    Calls Tryz.prog 66 #[.agg (mdC q M), .agg (stC r s), .agg #[.int .i64 v.event, .int .i64 v.user, .slice ad v.vals.length cp]] w (Ret w (.int .i64 (mayS M s v))) := by
  obtain ⟨W1, W2, h1, h2, HB2, HM, HS, HF⟩ := boxMS hm hs
  obtain ⟨W3, h3, hb3, x3⟩ := box1 W2 #[.int .i64 v.event, .int .i64 v.user, .slice ad v.vals.length cp] 58
  have HB3 := Lib.hid hb3
  have HX3 := Lib.hid x3
  have HMQ : Hid (∀ V, Below W2.heap.size W2 V → MdQ V q M) := fun V hV => HM.out.below hV
  have HSQ : Hid (∀ V, Below W2.heap.size W2 V → StQ V r s) := fun V hV => HS.out.below hV
  have HCH := Lib.hid (checkQ (HMQ.out _ hb3) (HSQ.out _ hb3))
  have HBE : Hid (∀ V, Below W2.heap.size W2 V → Below w.heap.size w V) := fun V hV => HB2.out.trans (hV.mono HB2.out.size)
  have HID : Hid (∀ V, Calls Tryz.prog 67 #[.agg #[.int .i64 v.event, .int .i64 v.user, .slice ad v.vals.length cp]] V (Ret V (.bool (idlM v)))) := fun V => idleQ v ad cp
  have HEN : Hid (∀ V, Below W2.heap.size W2 V → Calls Tryz.prog 80 #[.agg (mdC q M), .agg (stC r s), .int .i64 v.event, .int .i64 v.user] V (Ret V (.bool (enabS M s v.event v.user)))) := fun V hV => enabQ (HMQ.out _ hV) (HSQ.out _ hV) _ _
  have HAN : Hid (∀ V, Below W2.heap.size W2 V → Calls Tryz.prog 79 #[.agg (mdC q M), .agg (stC r s)] V (Ret V (.bool (anyS M s)))) := fun V hV => anyQ (HMQ.out _ hV) (HSQ.out _ hV)
  obtain ⟨mz, hmz⟩ : ∃ m, mayS M s v = m := ⟨_, rfl⟩
  rw [hmz]
  have HMY := hmz.symm
  unfold mayS at HMY
  replace HMY := Lib.hid HMY
  have hme := HM.out.events.max
  unfold mdC at h1 HCH HEN HAN
  unfold stC at h2 HCH HEN HAN
  unfold mdC stC
  unfold MdB StB at HF
  clear hm hs hb3 x3 hmz
  obtain ⟨⟨c0, c1, c2, c3, c4, c5, c6, c7, c8, c9⟩, d0, d1, d2, d3, d4⟩ := HF.out _ HB3.out
  have y0 := HX3.out.cell (i := 0) rfl
  have y1 := HX3.out.cell (i := 1) rfl
  have y2 := HX3.out.cell (i := 2) rfl
  go_enter Tryz.func66, Tryz.ntmps66
  go_wp2_with fail
  refine HCH.out.mono ?_
  rintro e4 W4 ⟨rfl, hb4⟩
  have HB4 := Lib.hid (HB3.out.trans (hb4.mono HB3.out.size))
  have HX4 := Lib.hid (HX3.out.keep hb4)
  clear c0 c1 c2 c3 c4 c5 c6 c7 c8 c9 d0 d1 d2 d3 d4 y0 y1 y2 hb4
  cases hch : chkS M s
  · have HE : Hid (mz = 15) := by unfold Hid; rw [HMY.out, if_pos hch]
    clear hch
    go_wp2
    go_ret
    exact ⟨ret_int HE.out.symm, HBE.out _ HB4.out⟩
  rw [hch, if_neg (by simp)] at HMY
  clear hch
  cases hid : idlM v
  · rw [hid] at HID HMY
    rw [if_neg (by simp)] at HMY
    clear hid
    have y0 := HX4.out.cell (i := 0) rfl
    have y1 := HX4.out.cell (i := 1) rfl
    have y2 := HX4.out.cell (i := 2) rfl
    go_wp2_with fail
    refine (HID.out _).mono ?_
    rintro e5 W5 ⟨rfl, hb5⟩
    have HB5 := Lib.hid (HB4.out.trans (hb5.mono HB4.out.size))
    have HX5 := Lib.hid (HX4.out.keep hb5)
    clear y0 y1 y2 hb5
    have y0 := HX5.out.cell (i := 0) rfl
    have y1 := HX5.out.cell (i := 1) rfl
    have y2 := HX5.out.cell (i := 2) rfl
    go_wp2_with fail
    refine (HID.out _).mono ?_
    rintro e6 W6 ⟨rfl, hb6⟩
    have HB6 := Lib.hid (HB5.out.trans (hb6.mono HB5.out.size))
    have HX6 := Lib.hid (HX5.out.keep hb6)
    clear y0 y1 y2 hb6
    obtain ⟨⟨c0, c1, c2, c3, c4, c5, c6, c7, c8, c9⟩, d0, d1, d2, d3, d4⟩ := HF.out _ HB6.out
    have y0 := HX6.out.cell (i := 0) rfl
    have y1 := HX6.out.cell (i := 1) rfl
    have y2 := HX6.out.cell (i := 2) rfl
    go_wp2_with fail
    refine (HEN.out _ HB6.out).mono ?_
    rintro e7 W7 ⟨rfl, hb7⟩
    have HB7 := Lib.hid (HB6.out.trans (hb7.mono HB6.out.size))
    have HX7 := Lib.hid (HX6.out.keep hb7)
    clear c0 c1 c2 c3 c4 c5 c6 c7 c8 c9 d0 d1 d2 d3 d4 y0 y1 y2 hb7
    cases hen : enabS M s v.event v.user
    · have HE : Hid (mz = 16) := by unfold Hid; rw [HMY.out, if_pos hen]
      clear hen
      go_wp2
      go_ret
      exact ⟨ret_int HE.out.symm, HBE.out _ HB7.out⟩
    rw [hen, if_neg (by simp)] at HMY
    obtain ⟨k, hk, hkl⟩ := inM_nat (enabS_in hen)
    obtain ⟨x, hx⟩ : ∃ x, M.events[k]? = some x := ⟨_, List.getElem?_eq_getElem hkl⟩
    obtain ⟨b, off, cap, ai, ki, hv, hbl, -, -, -, -, g3, -⟩ := eventRow (HMQ.out _ HB7.out).events hx
    simp only [Value.slice.injEq] at hv
    have ha := hv.1
    rw [hk, Int.toNat_natCast, evG_of hx] at HMY
    obtain ⟨n1, hn1⟩ : ∃ n, v.vals.length = n := ⟨_, rfl⟩
    obtain ⟨n2, hn2⟩ : ∃ n, x.sets.length = n := ⟨_, rfl⟩
    obtain ⟨⟨c0, c1, c2, c3, c4, c5, c6, c7, c8, c9⟩, -⟩ := HF.out _ HB7.out
    have y0 := HX7.out.cell (i := 0) rfl
    have y2 := HX7.out.cell (i := 2) rfl
    rw [hk] at y0
    rw [hn1] at y2 HMY
    rw [hn2] at g3 HMY
    have hkz := ltI hkl
    clear hen hv hx hn1 hn2 hk c0 c1 c2 c3 c4 c6 c7 c8 c9
    by_cases p : n1 = n2
    · have HE : Hid (mz = 0) := by unfold Hid; rw [HMY.out, if_neg (by simp [p])]
      have hb : ((n1 : Int) != (n2 : Int)) = false := by simp [p]
      clear p
      go_upto_region 9 with fail
      go_quiet (fail)
      go_wp2
      go_ret
      exact ⟨ret_int HE.out.symm, HBE.out _ (below_drewN HB7.out _)⟩
    · have HE : Hid (mz = 17) := by unfold Hid; rw [HMY.out, if_pos p]
      have hb : ((n1 : Int) != (n2 : Int)) = true := by simp; omega
      clear p
      go_upto_region 9 with fail
      go_quiet (fail)
      go_wp2
      go_ret
      exact ⟨ret_int HE.out.symm, HBE.out _ (below_drewN HB7.out _)⟩
  · rw [hid] at HID HMY
    rw [if_pos rfl] at HMY
    clear hid
    have y0 := HX4.out.cell (i := 0) rfl
    have y1 := HX4.out.cell (i := 1) rfl
    have y2 := HX4.out.cell (i := 2) rfl
    go_wp2_with fail
    refine (HID.out _).mono ?_
    rintro e5 W5 ⟨rfl, hb5⟩
    have HB5 := Lib.hid (HB4.out.trans (hb5.mono HB4.out.size))
    have HX5 := Lib.hid (HX4.out.keep hb5)
    clear y0 y1 y2 hb5
    obtain ⟨⟨c0, c1, c2, c3, c4, c5, c6, c7, c8, c9⟩, d0, d1, d2, d3, d4⟩ := HF.out _ HB5.out
    go_wp2_with fail
    refine (HAN.out _ HB5.out).mono ?_
    rintro e6 W6 ⟨rfl, hb6⟩
    have HB6 := Lib.hid (HB5.out.trans (hb6.mono HB5.out.size))
    have HX6 := Lib.hid (HX5.out.keep hb6)
    clear c0 c1 c2 c3 c4 c5 c6 c7 c8 c9 d0 d1 d2 d3 d4 hb6
    cases han : anyS M s
    · have HE : Hid (mz = 0) := by unfold Hid; rw [HMY.out, han]; rfl
      clear han
      have y0 := HX6.out.cell (i := 0) rfl
      have y1 := HX6.out.cell (i := 1) rfl
      have y2 := HX6.out.cell (i := 2) rfl
      go_wp2_with fail
      refine (HID.out _).mono ?_
      rintro e7 W7 ⟨rfl, hb7⟩
      have HB7 := Lib.hid (HB6.out.trans (hb7.mono HB6.out.size))
      go_wp2
      go_ret
      exact ⟨ret_int HE.out.symm, HBE.out _ HB7.out⟩
    · have HE : Hid (mz = 16) := by unfold Hid; rw [HMY.out, han]; rfl
      clear han
      go_wp2
      go_ret
      exact ⟨ret_int HE.out.symm, HBE.out _ HB6.out⟩
end Go.Proofs.YtadjnfpomjopkaaGreat

namespace Go.Proofs.YtadjnfpomjopkaaGreat
open Go.RowKit

theorem run_append_nothing {P : Program} {w : World} {base : Nat} (t ty e : TypeId) (i : TypeInfo) (size cap0 : Nat) (ht : P.underlying t = some (.slice e)) (hi : P.info? e = some i)
    (v : Value) (n : Nat) (xs : List Value) (hown : w.ownsRow base e size v n xs) :
    (Builtin.append_ #[t, t] ty #[v, .slice none 0 cap0]).run P w = .ok v w := by
  rcases hown.2 with ⟨rfl, rfl⟩ | ⟨g, cap, cur, rfl, _, _, hnc, _⟩
  · simp [Builtin.append_, run_underlying ht, sizeOf, typeInfo, hi, Builtin.lenOf, Builtin.firstCells]
  · simp [Builtin.append_, run_underlying ht, sizeOf, typeInfo, hi, Builtin.lenOf, Builtin.firstCells, hnc, storeCells]

/-- 'out = append(out, l...)' of a slice that reads, one cell an element -/
theorem appR {P : Program} {ops : Array Oper} {rest : List Oper} {o : Oper} {a : Act} {Q : Exit → Act → World → Prop} (w : World) (hgd : o.guard = none) (s x : Operand) (t : TypeId)
    (ho : o.op = .call { callee := .builtin .append, args := #[s, x], argTypes := #[t, t] })
    (base : Nat) (e : TypeId) (z : Value) (bytes : Nat) (ht : P.underlying t = some (.slice e)) (hinfo : (P.info? e).map (fun i => (i.zero, i.size, i.bytes)) = some (some z, 1, bytes))
    (hzs : z.cells.size = 1) (hby : 0 < bytes)
    (v : Value) (n : Nat) (xs : List Value) (hs : a.eval s = v) (hown : w.ownsRow base e 1 v n xs)
    (vx : Value) (news : List Value) (hx : a.eval x = vx) (hr : Reads w vx news) (h1 : ∀ u ∈ news, u.oneCell' = true)
    (hbytes : (n + news.length) * bytes ≤ 140737488355328) (hbase : base ≤ w.heap.size)
    (h : ∀ v' w', w'.ownsRow base e 1 v' (n + news.length) (xs ++ news) → Below base w w' → wpList P ops Q rest (a.put o.dst v') w') :
    wpList P ops Q (o :: rest) a w := by
  obtain ⟨i, hi, hz0, hz1, hz2⟩ := info_parts hinfo
  have h63 : n + news.length ≤ maxLen := by
    have : (n + news.length) * 1 ≤ (n + news.length) * bytes := Nat.mul_le_mul_left _ hby
    unfold maxLen; omega
  have key : ∀ ad m c, vx = .slice (some ad) m c → news.length = m → (∀ j u, news[j]? = some u → w.cell? (ad.add j) = some u) → wpList P ops Q (o :: rest) a w := by
    intro ad m c hv hm hnews
    refine wpList_append_own w hgd s x t ho base e i z 1 bytes ht hi hz0 hz1 hz2 hzs Nat.one_pos v n xs hs hown ad m c news (hx.trans hv) (by omega) hnews h1 (by omega) (by rw [← hm]; exact hbytes) hbase ?_
    intro v' w' ho' hg _
    exact h v' w' (by rw [hm]; exact ho') (below_of_grown hg (fun k hk => (hown.lt k hk).1) hbase)
  rcases hr with ⟨ad, cap, hv, hn⟩ | ⟨b, off, cap, hv, _, _, hc⟩
  · cases ad with
    | some ad => exact key ad 0 cap hv (by rw [hn]; rfl) (by rw [hn]; intro j u hu; simp at hu)
    | none =>
      subst hn
      refine wpList_plain hgd fun K hK => ?_
      have hrun := run_append_nothing (P := P) (w := w) (base := base) t o.type e i 1 cap ht hi v n xs hown
      have hx' : a.eval x = .slice none 0 cap := hx.trans hv
      unfold Oper.wp
      simp [execOp, ho, resolve, invoke, builtin, hs, hx', hrun, Result.andThen]
      exact hK _ _ (h v w (by simpa using hown) (Below.refl _ _))
  · refine key ⟨b, off, none⟩ _ cap hv rfl (fun j u hu => ?_)
    have : (⟨b, off, none⟩ : Addr).add j = ⟨b, off + j, none⟩ := by unfold Addr.add; split <;> simp_all
    rw [this]; exact hc j u hu

theorem info_int64 : (Tryz.prog.info? 2).map (fun i => (i.zero, i.size, i.bytes)) = some (some (.int .i64 0), 1, 8) := by kernel_rfl

theorem Reads.of_rowE {w : World} {v : Value} {T : List Int} (h : RowE intE 1 w v T) : Reads w v (ints T) := by
  have hm := h.max
  obtain ⟨ad, cap, rfl, _, h⟩ := h
  rcases h with rfl | ⟨b, off, rfl, hb, hc⟩
  · exact .inl ⟨ad, cap, rfl, rfl⟩
  · refine .inr ⟨b, off, cap, by rw [ints_len], hb, by rw [ints_len]; exact hm, fun t x hx => ?_⟩
    unfold ints at hx
    rw [List.getElem?_map] at hx
    cases ht : T[t]? with
    | none => rw [ht] at hx; cases hx
    | some n =>
      rw [ht] at hx
      cases hx
      obtain ⟨cs, _, he, hcell⟩ := hc t n ht
      have he : cs = [.int .i64 n] := he
      subst he
      have := hcell 0 _ rfl
      rwa [Nat.mul_one, Nat.add_zero] at this
theorem Reads.len {w : World} {v : Value} {xs : List Value} (h : Reads w v xs) : ∃ ad cap, v = .slice ad xs.length cap ∧ xs.length ≤ maxLen := by
  rcases h with ⟨ad, cap, rfl, rfl⟩ | ⟨b, off, cap, rfl, _, hm, _⟩
  · exact ⟨ad, cap, rfl, Nat.zero_le _⟩
  · exact ⟨_, cap, rfl, hm⟩
theorem Reads.at {w : World} {ad : Option Addr} {n cap : Nat} {xs : List Value} (h : Reads w (.slice ad n cap) xs) (hn : 0 < n) : ∃ b off, ad = some ⟨b, off, none⟩ ∧ ∀ t x, xs[t]? = some x → w.cell? ⟨b, off + t, none⟩ = some x := by
  rcases h with ⟨ad', cap', e, _⟩ | ⟨b, off, cap', e, _, _, hc⟩
  · cases e; omega
  · cases e; exact ⟨b, off, rfl, hc⟩
theorem ints_one (l : List Int) : ∀ v ∈ ints l, v.oneCell' = true := by
  intro v h
  unfold ints at h
  obtain ⟨a, _, rfl⟩ := List.mem_map.1 h
  rfl
/-- numbers in a block of one's own -/
def OwnI (w : World) (base : Nat) (ad : Option Addr) (t : TypeId) (l : List Int) : Prop := (l = [] ∧ ad = none) ∨ ∃ g cur, ad = some ⟨g, 0, none⟩ ∧ base ≤ g ∧ Blk w g cur t ∧ l.length ≤ cur.size ∧ l.length ≤ maxLen ∧ cur.toList.take l.length = ints l
theorem OwnI.of {w : World} {base : Nat} {ad : Option Addr} {cap : Nat} {t : TypeId} {l : List Int} (h : w.ownsRow base t 1 (.slice ad l.length cap) l.length (ints l)) : OwnI w base ad t l := by
  rcases h.2 with ⟨hv, h0⟩ | ⟨g, cap', cur, hv, hb, hg, hn, hm, hs, ht⟩
  · simp only [Value.slice.injEq] at hv
    exact .inl ⟨List.length_eq_zero_iff.1 h0, hv.1⟩
  · simp only [Value.slice.injEq] at hv
    exact .inr ⟨g, cur, hv.1, hb, hg, by omega, by omega, by rw [Nat.mul_one] at ht; exact ht⟩
theorem owns_cap {w : World} {base : Nat} {e : TypeId} {v : Value} {n : Nat} {xs : List Value} (h : w.ownsRow base e 1 v n xs) : ∃ ad cap, v = .slice ad n cap ∧ n ≤ cap := by
  rcases h.2 with ⟨rfl, h0⟩ | ⟨g, cap, cur, rfl, _, _, hn, _⟩
  · exact ⟨none, 0, by rw [h0], by omega⟩
  · exact ⟨_, _, rfl, hn⟩
theorem OwnI.row {w : World} {base : Nat} {ad : Option Addr} {t : TypeId} {l : List Int} (h : OwnI w base ad t l) (k : Nat) (hk : l.length ≤ k) (hk2 : k ≤ maxLen) (hz : ad = none → k = 0) : RowE intE 1 w (.slice ad l.length k) l := by
  refine ⟨ad, k, rfl, ⟨hz, hk, hk2⟩, ?_⟩
  · rcases h with h | ⟨g, cur, ha, _, hg, hn, _, ht⟩
    · exact .inl h.1
    · refine .inr ⟨g, 0, ha, hg.lt, fun i a hi => ⟨[.int .i64 a], rfl, rfl, ?_⟩⟩
      intro j u hj
      rcases j with _ | j
      · simp only [List.getElem?_cons_zero, Option.some.injEq] at hj
        subst hj
        have hil := (List.getElem?_eq_some_iff.1 hi).1
        have : (cur.toList.take l.length)[i]? = some (.int .i64 a) := by rw [ht]; unfold ints; rw [List.getElem?_map, hi]; rfl
        rw [List.getElem?_take, if_pos hil] at this
        rw [show 0 + i * 1 + 0 = i by omega]
        exact hg.cell (by rw [← Array.getElem?_toList]; exact this)
      · simp at hj
theorem OwnI.keep {w w' : World} {base : Nat} {ad : Option Addr} {t : TypeId} {l : List Int} (h : OwnI w base ad t l) (hb : Below w.heap.size w w') : OwnI w' base ad t l := by
  rcases h with h | ⟨g, cur, ha, h1, hg, h2⟩
  · exact .inl h
  · exact .inr ⟨g, cur, ha, h1, hg.keep hb, h2⟩
set_option maxRecDepth 100000 in
set_option maxHeartbeats 1000000 in
theorem clone64_any {w : World} {v : Value} {l : List Int} (h : Reads w v (ints l)) (hl : l.length ≤ 1000) :
    Calls Tryz.prog 77 #[v] w fun e w' => ∃ v', e = .returned v' ∧ w'.ownsRow w.heap.size 2 1 v' l.length (ints l) ∧ Below w.heap.size w w' := by
  obtain ⟨ad, cap, e0, -⟩ := h.len
  rw [ints_len] at e0
  have hlen : (ints l).length = l.length := ints_len l
  cases ad with
  | none =>
    have hl0 : l = [] := by
      rcases h with ⟨a, c, e, hx⟩ | ⟨b, off, c, e, _⟩
      · exact List.map_eq_nil_iff.1 hx
      · rw [e0] at e; cases e
    subst hl0
    subst e0
    have HR : Hid (∀ W, (binOp .eql 23 (.slice none 0 cap) (.slice none 0 0)).run Tryz.prog W = .ok (.bool true) W) := fun W => Lib.run_eql_slice_nil W 23 2 none 0 cap 0 0 Tryz.underlying23
    have hr := HR.out w
    clear h
    go_enter Tryz.func77, Tryz.ntmps77
    go_wp2
    go_ret
    exact ⟨_, rfl, World.ownsRow_nil _ _ _ _, Below.refl _ _⟩
  | some a =>
    subst e0
    have HR : Hid (∀ W, (binOp .eql 23 (.slice (some a) l.length cap) (.slice none 0 0)).run Tryz.prog W = .ok (.bool false) W) := fun W => Lib.run_eql_slice_nil W 23 2 (some a) l.length cap 0 0 Tryz.underlying23
    have hr := HR.out w
    have hba : Below w.heap.size w (w.alloc (.cells #[] 2)) := (Below.refl _ _).alloc (Nat.le_refl _) _
    have own0 : (w.alloc (.cells #[] 2)).ownsRow w.heap.size 2 1 (.slice (some ⟨w.heap.size, 0, none⟩) 0 0) 0 [] := World.ownsRow_lit w #[] 0 (Nat.le_refl _) (Nat.zero_le _) rfl
    have hsx : w.heap.size ≤ (w.alloc (.cells #[] 2)).heap.size := by simp
    have rx := h.below (Nat.le_refl _) hba
    obtain ⟨n, hn⟩ : ∃ n, l.length = n := ⟨_, rfl⟩
    rw [hn] at hlen rx hl ⊢
    have HBA := Lib.hid hba
    rw [hn] at hr
    clear h hba HR hn
    go_enter Tryz.func77, Tryz.ntmps77
    go_wp2_with (first
      | (at_builtin; refine appR _ rfl _ _ 23 rfl w.heap.size 2 (.int .i64 0) 8 Tryz.underlying23 info_int64 rfl (by decide) _ 0 [] rfl (by exact own0) _ _ rfl rx (ints_one _) (by rw [hlen]; omega) hsx ?_; clear own0 rx hsx; intro va w3 hown3 hb3
         have HB3 := Lib.hid (HBA.out.trans hb3)
         have HO3 := Lib.hid hown3
         clear hown3 hb3)
      | fail)
    go_ret
    refine ⟨_, rfl, ?_, HB3.out⟩
    have := HO3.out
    rw [hlen, Nat.zero_add, List.nil_append] at this
    exact this

set_option maxRecDepth 100000 in
set_option maxHeartbeats 1000000 in
theorem own64Q {w : World} {v : Value} {l : List Int} (h : RowE intE 1 w v l) (hl : l.length ≤ 1000000) :
    Calls Tryz.prog 81 #[v] w fun e w' => (∃ ad, e = .returned (.slice ad l.length l.length) ∧ OwnI w' w.heap.size ad 2 l) ∧ Below w.heap.size w w' := by
  have hR := Reads.of_rowE h
  have hba : Below w.heap.size w (w.alloc (.cells #[] 2)) := (Below.refl _ _).alloc (Nat.le_refl _) _
  have own0 : (w.alloc (.cells #[] 2)).ownsRow w.heap.size 2 1 (.slice (some ⟨w.heap.size, 0, none⟩) 0 0) 0 [] := World.ownsRow_lit w #[] 0 (Nat.le_refl _) (Nat.zero_le _) rfl
  have hsx : w.heap.size ≤ (w.alloc (.cells #[] 2)).heap.size := by simp
  have rx := hR.below (Nat.le_refl _) hba
  obtain ⟨n, hn⟩ : ∃ n, l.length = n := ⟨_, rfl⟩
  have hlen : (ints l).length = n := by rw [ints_len, hn]
  rw [hn] at hl ⊢
  have HBA := Lib.hid hba
  have HN := Lib.hid hn
  obtain ⟨ad0, cp0, e0⟩ := h.len
  subst e0
  rw [hn] at rx ⊢
  clear h hba hn hR
  go_enter Tryz.func81, Tryz.ntmps81
  go_wp2_with (first
    | (at_builtin; refine appR _ rfl _ _ 23 rfl w.heap.size 2 (.int .i64 0) 8 Tryz.underlying23 info_int64 rfl (by decide) _ 0 [] rfl (by exact own0) _ _ rfl rx (ints_one _) (by rw [hlen]; omega) hsx ?_; clear own0 rx hsx; intro va w3 hown3 hb3
       have HB3 := Lib.hid (HBA.out.trans hb3)
       rw [hlen, Nat.zero_add, List.nil_append] at hown3
       obtain ⟨ad3, cp3, e3, hcp⟩ := owns_cap hown3
       subst e3
       have HO3 := Lib.hid hown3
       have hcp' : (n : Int) ≤ (cp3 : Int) := by omega
       have hn0 : (0 : Int) ≤ (n : Int) := Int.natCast_nonneg _
       clear hown3 hb3)
    | fail)
  go_ret
  refine ⟨⟨_, rfl, ?_⟩, HB3.out⟩
  have := HO3.out
  rw [← HN.out] at this
  exact OwnI.of this

set_option maxRecDepth 100000 in
set_option maxHeartbeats 1000000 in
theorem ownQ {w : World} {v : Value} {l : List Int} (h : RowE intE 1 w v l) (hl : l.length ≤ 1000000) :
    Calls Tryz.prog 82 #[v] w fun e w' => (∃ ad, e = .returned (.slice ad l.length l.length) ∧ OwnI w' w.heap.size ad 3 l) ∧ Below w.heap.size w w' := by
  have hR := Reads.of_rowE h
  have hba : Below w.heap.size w (w.alloc (.cells #[] 3)) := (Below.refl _ _).alloc (Nat.le_refl _) _
  have own0 : (w.alloc (.cells #[] 3)).ownsRow w.heap.size 3 1 (.slice (some ⟨w.heap.size, 0, none⟩) 0 0) 0 [] := World.ownsRow_lit w #[] 0 (Nat.le_refl _) (Nat.zero_le _) rfl
  have hsx : w.heap.size ≤ (w.alloc (.cells #[] 3)).heap.size := by simp
  have rx := hR.below (Nat.le_refl _) hba
  obtain ⟨n, hn⟩ : ∃ n, l.length = n := ⟨_, rfl⟩
  have hlen : (ints l).length = n := by rw [ints_len, hn]
  rw [hn] at hl ⊢
  have HBA := Lib.hid hba
  have HN := Lib.hid hn
  obtain ⟨ad0, cp0, e0⟩ := h.len
  subst e0
  rw [hn] at rx ⊢
  clear h hba hn hR
  go_enter Tryz.func82, Tryz.ntmps82
  go_wp2_with (first
    | (at_builtin; refine appR _ rfl _ _ 42 rfl w.heap.size 3 (.int .i64 0) 8 Tryz.underlying42 info_int rfl (by decide) _ 0 [] rfl (by exact own0) _ _ rfl rx (ints_one _) (by rw [hlen]; omega) hsx ?_; clear own0 rx hsx; intro va w3 hown3 hb3
       have HB3 := Lib.hid (HBA.out.trans hb3)
       rw [hlen, Nat.zero_add, List.nil_append] at hown3
       obtain ⟨ad3, cp3, e3, hcp⟩ := owns_cap hown3
       subst e3
       have HO3 := Lib.hid hown3
       have hcp' : (n : Int) ≤ (cp3 : Int) := by omega
       have hn0 : (0 : Int) ≤ (n : Int) := Int.natCast_nonneg _
       clear hown3 hb3)
    | fail)
  go_ret
  refine ⟨⟨_, rfl, ?_⟩, HB3.out⟩
  have := HO3.out
  rw [← HN.out] at this
  exact OwnI.of this

end Go.Proofs.YtadjnfpomjopkaaGreat
