/- The maker of package put: all tells all zones. put.has, put.formed, put.Put. -/
import Derived.Test.YtkkoooagamadjaaGreatDoorPk17

namespace Go.Proofs.YtkkoooagamadjaaGreatDoor
open Go.RowKit Go.Shelf
attribute [local go_sem] Oper.semAt_some

set_option maxRecDepth 100000 in
set_option maxHeartbeats 1000000 in
theorem backward_any (ad : Option Addr) (n cap : Nat) (w : World) :
    Calls Tryz.prog 82 #[.slice ad n cap] w fun e w' => e = .returned (.func (.func 110) #[] #[.pointer (some ⟨w.heap.size, 0, none⟩)]) ∧ w' = w.alloc (.cells #[.slice ad n cap] 26) := by
  go_enter Tryz.func82, Tryz.ntmps82
  go_wp2
  go_ret
  exact ⟨rfl, rfl⟩

/-- the same, where nothing panics -/
def noPanic (Q : Exit → Act → World → Prop) : Exit → Act → World → Prop
  | .panic _, _, _ => False
  | .outgrown, a, w => Q .outgrown a w
  | .normal, a, w => Q .normal a w
  | .ret, a, w => Q .ret a w
  | .exit i, a, w => Q (.exit i) a w
  | .goto i, a, w => Q (.goto i) a w
theorem noPanic_of {Q : Exit → Act → World → Prop} {e : Exit} {a : Act} {w : World} (h : noPanic Q e a w) : Q e a w := by
  cases e <;> first | exact h | exact h.elim
theorem KeepT.other {base bo : Nat} {W W' : World} (h : KeepT base bo W W') {k : Nat} {o : Obj} (hk : W.heap[k]? = some o) (ho : o.isCells = false) (hne : k ≠ bo) : W'.heap[k]? = some o :=
  (h.block k (Array.getElem?_eq_some_iff.1 hk).1 hne (.inr fun cs f e => by rw [hk] at e; cases e; cases ho)).trans hk
theorem KeepT.same {base bo : Nat} {W W' : World} (h : KeepT base bo W W') {k : Nat} {cs : Array Value} {t : TypeId} {f : Nat × Nat} (hk : W.heap[k]? = some (.cells cs t f)) (ht : t ≠ 28) (hne : k ≠ bo) : W'.heap[k]? = W.heap[k]? :=
  h.block k (Array.getElem?_eq_some_iff.1 hk).1 hne (.inr fun cs f e => by rw [hk] at e; cases e; exact ht rfl)
theorem AI.fin {w0 W Wx : World} {base bo bm : Nat} {v1 v2 ov : Value} {cl : List (Int × Int)} {gl : List Int} {a r : Int} {O : List Int} {zs : List Zn} (h : AI w0 W base bo bm v1 v2 cl gl a r ov O zs Wx) {D : Nat} (hd : Wx.heap[D]? = some (.deferred (some []))) (hD : W.heap.size ≤ D) (o : Obj) :
    ∃ v', PI w0 base bo bm v1 v2 cl gl a r v' zs (Wx.putObj D o) ∧ KeepT base bo W (Wx.putObj D o) := by
  have hA := h.turn (grownBy_putObj' Wx D o) (fun q e => by cases e; exact ⟨hD, _, hd, rfl⟩)
  obtain ⟨v', hv⟩ := hA.ex
  exact ⟨v', hv, hA.kp⟩
theorem back_snd (O : List Int) : (backL O O.length).map (·.2) = O.reverse := by
  apply List.ext_getElem
  · simp [backL]
  · intro i h1 h2
    simp only [List.length_map, backL_len] at h1
    simp only [backL, List.getElem_map, List.getElem_range, List.getElem_reverse, List.getD_eq_getElem?_getD]
    rw [List.getElem?_eq_getElem (by omega)]
    rfl
theorem headZ_snoc (cl : List (Int × Int)) (gl : List Int) (a r : Int) (pre : List (Int × Int)) (x : Int × Int) : headZ cl gl a r ((pre ++ [x]).map (·.2)) = headZ cl gl a r (pre.map (·.2)) ++ [ownZ cl gl a r 0 0 0 [x.2]] := by simp [headZ]

set_option maxRecDepth 100000 in
set_option maxHeartbeats 4000000 in
theorem all_run {w0 W : World} {base bo bm : Nat} {v1 v2 v : Value} {cl : List (Int × Int)} {gl : List Int} {a r : Int} (h : PI w0 base bo bm v1 v2 cl gl a r v [] W) (hcl : cl.length ≤ 60) (hgl : gl.length = cl.length - 1) (hr1 : 1 ≤ r) (hr2 : r ≤ 6) (hbo : bo < W.heap.size) :
    Calls Tryz.prog 49 #[.pointer (some ⟨bm, 0, none⟩)] W fun e W' => e = .returned (.tuple #[]) ∧ ∃ v', PI w0 base bo bm v1 v2 cl gl a r v' (putA cl gl a r) W' ∧ KeepT base bo W W' := by
  obtain ⟨ad1, k1, e1⟩ := h.zin.1.len
  obtain ⟨ad2, k2, e2⟩ := h.zin.2.len
  obtain ⟨n, hn⟩ : ∃ n, cl.length = n := ⟨_, rfl⟩
  rw [hn] at hcl hgl e1
  rw [hgl] at e2
  subst e1; subst e2
  have hb1 : Below W.heap.size W (W.alloc (.cells #[.pointer (some ⟨bm, 0, none⟩)] 73)) := (Below.refl _ W).alloc (Nat.le_refl _) _
  have h1 : AI w0 W base bo bm (.slice ad1 n k1) (.slice ad2 (n - 1) k2) cl gl a r (.slice none 0 0) [] [] (W.alloc (.cells #[.pointer (some ⟨bm, 0, none⟩)] 73)) :=
    ⟨⟨v, h.below hb1⟩, Blk.new _ _ _, World.ownsRow_nil _ _ _ _, KeepT.of_below hb1, h.low.size, hbo, h.maker.lt⟩
  have HA := Lib.hid h1
  obtain ⟨W1, hW1⟩ : ∃ W1, W.alloc (.cells #[.pointer (some ⟨bm, 0, none⟩)] 73) = W1 := ⟨_, rfl⟩
  rw [hW1] at HA
  obtain ⟨c0, hs1, hs2⟩ := HA.out.facts
  obtain ⟨d0, d1, d2⟩ := HA.out.cells
  clear h h1 hb1
  refine (callsIn_wide (n := 10)).1 (callsIn_of_wp_marks Tryz.func49 rfl trivial ?_ rfl)
  refine wpIn_wide.2 ?_
  refine wp_mono (Q := noPanic (bodyPostM Fence.wide 10 Tryz.prog Tryz.f49 _)) ?_ (fun e a w h => noPanic_of h)
  simp only [Tryz.ntmps49, List.size_toArray, List.length_cons, List.length_nil, Nat.reduceAdd, Nat.reduceSub, Array.replicate_succ, Array.replicate_zero, List.push_toArray, List.append_toArray, List.nil_append, List.cons_append]
  by_cases h0 : n = 0
  · have hz : ((n : Int) == 0) = true := by simp; omega
    have hc : cl.length = 0 := by omega
    have HP := Lib.hid (HA.out.put (by omega) (by omega) hr1 (by omega) (by simp) 0 0 0 (.slice none 0 0) [] (Nat.zero_le _) (.inr (.inr ⟨by omega, rfl, rfl, rfl, rfl⟩)))
    have HE : Hid (putA cl gl a r = [] ++ [ownZ cl gl a r 0 0 0 []]) := by unfold Hid putA; rw [if_pos hc]; rfl
    clear hn h0 hc
    go_wp2_with fail
    refine HP.out.mono ?_
    rintro e w2 ⟨rfl, ha, hk⟩
    have HA2 := Lib.hid ha
    clear ha hk
    go_wp2
    obtain ⟨v', hv⟩ := HA2.out.ex
    exact ⟨_, results_none rfl _ _ _, rfl, v', by rw [HE.out]; exact hv, HA2.out.kp⟩
  · have hz : ((n : Int) == 0) = false := by simp; omega
    have HO1 := Lib.hid (outer_any r W1 (by omega))
    go_wp2_with fail
    refine HO1.out.mono ?_
    rintro e w2 ⟨ov, rfl, ho, hb⟩
    obtain ⟨O, hO⟩ : ∃ O, outL r = O := ⟨_, rfl⟩
    have HOL := Lib.hid hO
    rw [hO] at ho
    obtain ⟨q, hq⟩ : ∃ q, O.length = q := ⟨_, rfl⟩
    have HQ := Lib.hid hq
    have hq1 : 0 < q := by rw [← hq, ← hO]; unfold outL; rw [if_neg (by omega)]; simp
    have hq2 : q ≤ 32 := by rw [← hq, ← hO]; exact outL_len r hr1 hr2
    rw [hq] at ho
    obtain ⟨g, ocap, rfl, hg1, hg2⟩ := owns_shape ho hq1
    have ha2 := HA.out.below hb
    have ha3 : AI w0 W base bo bm (.slice ad1 n k1) (.slice ad2 (n - 1) k2) cl gl a r (.slice (some ⟨g, 0, none⟩) q ocap) O [] w2 := ⟨ha2.ex, ha2.mb, by rw [hq]; exact owns_mono ho (by omega), ha2.kp, ha2.lo⟩
    have hb3 : Below w2.heap.size w2 (w2.alloc (.cells #[.slice (some ⟨g, 0, none⟩) q ocap] 26)) := (Below.refl _ _).alloc (Nat.le_refl _) _
    obtain ⟨w3, hw3⟩ : ∃ w3, w2.alloc (.cells #[.slice (some ⟨g, 0, none⟩) q ocap] 26) = w3 := ⟨_, rfl⟩
    have hs3 : w3.heap.size = w2.heap.size + 1 := by rw [← hw3]; simp
    have x3 : Blk w3 w2.heap.size #[.slice (some ⟨g, 0, none⟩) q ocap] 26 := by rw [← hw3]; exact Blk.new _ _ _
    rw [hw3] at hb3
    have HA3 := Lib.hid (ha3.below hb3)
    have HX3 := Lib.hid x3
    have HS := Lib.hid (back_seq 9 w2.heap.size g q ocap O w3 hq (by omega) x3 W1.heap.size (owns_below ho hb3))
    have HB2 := Lib.hid (backward_any (some ⟨g, 0, none⟩) q ocap w2)
    rw [hw3] at HB2
    have hbw : bo < w3.heap.size := by have := HA3.out.lo.2.1; have := HA3.out.facts.2.1; omega
    have hww : W.heap.size < w3.heap.size := HA3.out.facts.2.1
    have hgw : g < w3.heap.size := by omega
    clear ho hb hO hq ha2 ha3 hb3 hw3 x3 HA HO1 c0 d0 d1 d2 hs1 hs2 hW1
    go_wp2_with fail
    refine HB2.out.mono ?_
    rintro e w9 ⟨rfl, hw⟩
    rw [hw]
    clear hw w9 HB2
    go_wp2_with fail
    refine (wpIn_wide (n := 10)).1 ?_
    refine wpIn_rangeFunc_ownG rfl (by omega) (gf := 110) (lb := #[.pointer (some ⟨w2.heap.size, 0, none⟩)]) rfl trivial (enters_of Tryz.func110 (by kernel_rfl) rfl) HS.out (fun h k => h.trans k) ?kb (Below.refl _ _) (fun _ => rfl)
      (fun pre Wx => AI w0 W base bo bm (.slice ad1 n k1) (.slice ad2 (n - 1) k2) cl gl a r (.slice (some ⟨g, 0, none⟩) q ocap) O (headZ cl gl a r (pre.map (·.2))) Wx ∧ Blk Wx w2.heap.size #[.slice (some ⟨g, 0, none⟩) q ocap] 26) (fun _ _ _ => False) ?own ?ownx ⟨HA3.out, HX3.out⟩ ?act ?assign ?body ?done ?stop
    case assign =>
      intro l x Wx K hK
      gi_wp2
      exact hK
    case kb =>
      intro Wx l o o' hl h1 h2 _ k hk hkn
      exact World.putObj_heap_other (by rintro rfl; omega)
    case own =>
      rintro s A A' row ⟨h1, h2⟩ hg hr
      exact ⟨h1.turn hg fun q e => ⟨by have := (hr q e).1; omega, (hr q e).2⟩, (CellsKept.of_turn hg fun q e => (hr q e).2).blk h2⟩
    case ownx => exact fun c s A A' row h => h.elim
    case stop => exact fun D c pre Wx hD _ h => h.elim
    case body =>
      rintro l pre x Wx ⟨h1, h2⟩ hpre
      have hb4 : Below Wx.heap.size Wx (Wx.alloc (.cells #[.int .i64 x.2] 3)) := (Below.refl _ Wx).alloc (Nat.le_refl _) _
      have h3 := h1.below hb4
      obtain ⟨c0, f1, f2⟩ := h1.facts
      have hob := h1.ob
      rw [HQ.out] at hob
      obtain ⟨gcur, gq, _⟩ := owns_row hob
      have HP := Lib.hid (h3.put (by omega) (by omega) hr1 (by omega) (by simp [headZ]; omega) 0 0 0 (.slice (some ⟨Wx.heap.size, 0, none⟩) 1 1) [x.2] (Nat.zero_le _) (RepOK.lit1 Wx x.2 0 _ (Nat.zero_le _) _))
      have HB4 := Lib.hid hb4
      have HB2 := Lib.hid (h2.keep hb4)
      have HB0 := Lib.hid h2
      have HGQ := Lib.hid gq
      have hlo := h1.lo.2.1
      clear hb4 h3 h2 h1 gq hob
      gi_wp2
      refine ⟨trivial, (CallsIn.inRound l (callsIn_wide.2 HP.out)).mono ?_⟩
      rintro e W' ⟨rfl, ha, hk⟩
      have HA5 := Lib.hid ha
      have HK5 := Lib.hid hk
      clear ha hk
      gi_wp2
      have hk2 := (KeepT.of_below HB4.out : KeepT base bo _ _).trans HK5.out
      refine ⟨⟨hk2.size, fun k o hB hk' ho => hk2.other hk' ho (by omega)⟩, fun k hk' _ => ?_, ?_, hk2.blk HB0.out (by omega) (by decide)⟩
      · rcases hk' with rfl | rfl
        · exact hk2.same HB0.out (by decide) (by omega)
        · exact hk2.same HGQ.out (by decide) (by omega)
      · rw [headZ_snoc]; exact HA5.out
    case done =>
      rintro D xs Wx hD rfl ⟨h1, h2⟩ hK
      have hrev : (backL O q).map (·.2) = O.reverse := by rw [← HQ.out]; exact back_snd O
      rw [hrev] at h1
      have HA4 := Lib.hid h1
      have HK4 := Lib.hid hK
      clear h1 h2 hK hrev HA3 HX3 HS
      go_wp2_with fail
      go_loopw [6, 8, 35, 59] (fun _ _ i _ wr => ∃ k : Nat, k < n ∧ i = .int .i64 k ∧ Hid (AI w0 W base bo bm (.slice ad1 n k1) (.slice ad2 (n - 1) k2) cl gl a r (.slice (some ⟨g, 0, none⟩) q ocap) O (headZ cl gl a r O.reverse ++ midZ cl gl a r k) wr ∧ wr.heap[D]? = some (.deferred (some [])))) (fun _ _ i _ _ => n - (intOf i).toNat)
      case atStart => exact ⟨0, by omega, rfl, by simpa [midZ] using HA4.out, HK4.out⟩
      case round =>
        clear HA4 HK4
        obtain ⟨k, hk, rfl, HH⟩ := hrel
        obtain ⟨w1, rfl⟩ : ∃ w1, w1 = wr := ⟨_, rfl⟩
        obtain ⟨c0, f1, f2⟩ := HH.out.1.facts
        obtain ⟨Z, hZ⟩ : ∃ Z, headZ cl gl a r O.reverse ++ midZ cl gl a r k = Z := ⟨_, rfl⟩
        have HZ := Lib.hid hZ
        have hZl : Z.length ≤ 32 + 60 * 1025 := by
          rw [← hZ, List.length_append]
          have m1 := midZ_len cl gl a r k hr1 hr2
          have m2 : (headZ cl gl a r O.reverse).length ≤ 32 := by simp only [headZ, List.length_map, List.length_reverse, HQ.out]; exact hq2
          have m3 : k * 1025 ≤ 60 * 1025 := Nat.mul_le_mul_right _ (by omega)
          omega
        rw [hZ] at HH
        have HIN := Lib.hid (HH.out.1.in_ (by omega) (by omega) hr1 (by omega) (by omega) k (by omega))
        have HD := Lib.hid HH.out.2
        have hkn : (k : Int) < (n : Int) := by omega
        obtain ⟨Y, hY⟩ : ∃ Y, inCZ cl gl a r k (cl.getD k (0, 0)).1 (cl.getD k (0, 0)).2 = Y := ⟨_, rfl⟩
        have HY := Lib.hid hY
        rw [hY] at HIN
        have hDb : D ≠ bo := by have := HH.out.1.lo; omega
        clear hZ hY
        go_wp2_with fail
        refine HIN.out.mono ?_
        rintro e w5 ⟨rfl, ha, hkk⟩
        have HA5 := Lib.hid ha
        have HD5 := Lib.hid (hkk.other HD.out rfl hDb)
        obtain ⟨c5, f5, f6⟩ := ha.facts
        obtain ⟨d5, d6, d7⟩ := ha.cells
        clear ha hkk HIN HH HD c0 f1 f2
        by_cases hkl : k = n - 1
        · have hbr : ((k : Int) == (n : Int) - 1) = true := by simp; omega
          have HM : Hid (headZ cl gl a r O.reverse ++ midZ cl gl a r n = Z ++ [Y]) := by
            unfold Hid
            rw [show n = k + 1 by omega, midZ_succ, ← List.append_assoc, HZ.out, ← HY.out]
            unfold stepZ
            rw [if_neg (by omega)]
          obtain ⟨ZZ, hZZ⟩ : ∃ ZZ, Z ++ [Y] = ZZ := ⟨_, rfl⟩
          have hZZl : ZZ.length ≤ 33 + 60 * 1025 := by rw [← hZZ, List.length_append]; simp; omega
          rw [hZZ] at HA5 HM
          have HFIN : Hid (putA cl gl a r = ZZ ++ tailZ cl gl a r O) := by
            unfold Hid putA
            rw [if_neg (by omega), HOL.out, hn, HM.out]
          have hnz : IntKind.i64.wrap ((n : Int) - 1) = ((n - 1 : Nat) : Int) := by rw [IntKind.wrap_i64]; omega
          have hnz2 : (n : Int) - 1 = ((n - 1 : Nat) : Int) := by omega
          have hbr2 : ((k : Int) == ((n - 1 : Nat) : Int)) = true := by simp; omega
          clear hkl hZZ HM HZ HY HOL
          go_wp2_with fail
          go_loopw [10, 79] (fun _ i wr => ∃ j : Nat, j ≤ q ∧ i = .int .i64 j ∧ Hid (AI w0 W base bo bm (.slice ad1 n k1) (.slice ad2 (n - 1) k2) cl gl a r (.slice (some ⟨g, 0, none⟩) q ocap) O (ZZ ++ tailZ cl gl a r (O.take j)) wr ∧ wr.heap[D]? = some (.deferred (some [])))) (fun _ i _ => q - (intOf i).toNat)
          case atStart => exact ⟨0, Nat.zero_le _, rfl, by simpa [tailZ] using HA5.out, HD5.out⟩
          case round =>
            clear HA5 HD5 c5 f5 f6 d5 d6 d7
            obtain ⟨j, hj, rfl, HH⟩ := hrel
            obtain ⟨c0, f1, f2⟩ := HH.out.1.facts
            by_cases hlt : j < q
            · have hjq : (j : Int) < (q : Int) := by omega
              have hob := HH.out.1.ob
              rw [HQ.out] at hob
              obtain ⟨y, hy⟩ : ∃ y, O[j]? = some y := ⟨_, List.getElem?_eq_getElem (by rw [HQ.out]; exact hlt)⟩
              have cy : wr.cell? ⟨g, j, none⟩ = some (.int .i64 y) := by rw [hob.cellAt _ (by omega)]; simp [ints, hy]
              have hb6 : Below wr.heap.size wr (wr.alloc (.cells #[.int .i64 y] 3)) := (Below.refl _ wr).alloc (Nat.le_refl _) _
              have hD6 := hb6.block D (Array.getElem?_eq_some_iff.1 HH.out.2).1
              have HD6 := Lib.hid (hD6.trans HH.out.2)
              have HP := Lib.hid ((HH.out.1.below hb6).put (by omega) (by omega) hr1 (by omega) (by simp only [tailZ, List.length_append, List.length_map, List.length_take]; omega) n (n - 1) (n - 1) (.slice (some ⟨wr.heap.size, 0, none⟩) 1 1) [y] (by omega) (RepOK.lit1 wr y (n - 1) _ (by omega) _))
              have hS : Hid (ZZ ++ tailZ cl gl a r (O.take j) ++ [ownZ cl gl a r n (n - 1) (n - 1) [y]] = ZZ ++ tailZ cl gl a r (O.take (j + 1))) := by
                unfold Hid
                have : O.take (j + 1) = O.take j ++ [y] := by
                  obtain ⟨h1, h2⟩ := List.getElem?_eq_some_iff.1 hy
                  rw [List.take_succ_eq_append_getElem h1, h2]
                rw [this, List.append_assoc]
                simp [tailZ, hn]
              clear hob hy hb6 hD6 HH
              go_wp2_with fail
              refine HP.out.mono ?_
              rintro e w7 ⟨rfl, ha, hkk⟩
              have HA7 := Lib.hid ha
              have HD7 := Lib.hid (hkk.other HD6.out rfl hDb)
              clear ha hkk HP HD6
              go_wp2_with fail
              go_roundw
              case rel => exact ⟨j + 1, by omega, by go_num, by rw [← hS.out]; exact ⟨HA7.out, HD7.out⟩⟩
              case measure => simp [intOf]; omega
            · obtain rfl : j = q := by omega
              have hh := HH.out
              rw [show O.take j = O from by rw [← HQ.out]; exact List.take_length, ← HFIN.out] at hh
              have HE := Lib.hid hh
              clear hh HH
              go_wp2_with fail
              refine ⟨by simp, .inl ⟨_, _, rfl, run_takeDeferred HE.out.2, ?_⟩⟩
              exact ⟨_, results_none rfl _ _ _, rfl, HE.out.1.fin HE.out.2 (by omega) _⟩
        · have hbr : ((k : Int) == (n : Int) - 1) = false := by simp; omega
          have hkg : k < gl.length := by omega
          obtain ⟨x, hx⟩ : ∃ x, gl[k]? = some x := ⟨_, List.getElem?_eq_getElem hkg⟩
          have hxd : gl.getD k 0 = x := by rw [List.getD_eq_getElem?_getD, hx]; rfl
          obtain ⟨vv, hvv⟩ := HA5.out.ex
          have hin := hvv.zin.2
          rw [hgl] at hin
          obtain ⟨gb, go, rfl, hgbl, hgc⟩ := hin.at (by omega)
          have cg : w5.cell? ⟨gb, go + k, none⟩ = some (.int .i64 x) := hgc k _ (by simp [ints, hx])
          have hkn1 : (k : Int) < ((n - 1 : Nat) : Int) := by omega
          have HSP := Lib.hid (splits_any x r w5.drew (by omega))
          obtain ⟨S, hS⟩ : ∃ S, splP x r = S := ⟨_, rfl⟩
          have HSS := Lib.hid hS
          have hSl : S.length ≤ 1024 := by rw [← hS]; exact splP_len x r hr1 hr2
          rw [hS] at HSP
          have HM : Hid (headZ cl gl a r O.reverse ++ midZ cl gl a r (k + 1) = Z ++ [Y] ++ S.map fun s => ownZ cl gl a r (k + 1) k (k + 1) [s.1, s.2]) := by
            unfold Hid
            rw [midZ_succ, ← List.append_assoc, HZ.out, ← HY.out]
            unfold stepZ
            rw [if_pos (by omega), hxd, hS]
            simp
          obtain ⟨ZZ, hZZ⟩ : ∃ ZZ, Z ++ [Y] = ZZ := ⟨_, rfl⟩
          have hZZl : ZZ.length ≤ 33 + 60 * 1025 := by rw [← hZZ, List.length_append]; simp; omega
          rw [hZZ] at HA5 HM
          obtain ⟨p, hp⟩ : ∃ p, S.length = p := ⟨_, rfl⟩
          have HPL := Lib.hid hp
          rw [hp] at HSP
          clear hx hxd hvv hin hgc hS hZZ hkl HZ HY HOL
          go_upto_region 13 with fail
          go_cut [35, 57, 58, 59] from 35 to 76 (fun v35 v57 v58 v59 wx => ∃ (sad : Option Addr) (scap : Nat), v35 = .int .i64 k ∧ v57 = .slice sad p scap ∧ v58 = .int .i64 p ∧ v59 = .int .i64 0 ∧ Hid (AI w0 W base bo bm (.slice ad1 n k1) (.slice (some ⟨gb, go, none⟩) (n - 1) k2) cl gl a r (.slice (some ⟨g, 0, none⟩) q ocap) O ZZ wx ∧ wx.heap[D]? = some (.deferred (some [])) ∧ wx.ownsRow W.heap.size 98 2 (.slice sad p scap) p (cellsP S)))
          case first =>
            go_region_law (first
              | (go_simp; go_at_call 84; (with_reducible refine HSP.out.mono ?_)
                 rintro e w7 ⟨sv, rfl, ho7, hb7⟩
                 obtain ⟨sad, scap, hsv⟩ := owns_len ho7
                 subst hsv
                 have hb8 : Below w5.heap.size w5 w7 := ((Below.refl _ w5).drew).trans hb7
                 have hD8 := (hb8.block D (Array.getElem?_eq_some_iff.1 HD5.out).1).trans HD5.out
                 have HF7 := Lib.hid (And.intro (HA5.out.below hb8) (And.intro hD8 (owns_mono ho7 (show W.heap.size ≤ w5.drew.heap.size by simp only [World.size_drew]; omega))))
                 clear ho7 hb7 hb8 hD8))
            all_goals
              go_wp2_with fail
              go_meet
              exact ⟨_, _, rfl, rfl, rfl, rfl, HF7.out⟩
          case rest =>
            clear HA5 HD5 c5 f5 f6 d5 d6 d7 cg hgbl HSP
            obtain ⟨sad, scap, rfl, rfl, rfl, rfl, hcut⟩ := hcut
            have HC := Lib.hid hcut.out
            have hpl : p ≤ 1024 := by rw [← HPL.out]; exact hSl
            clear hcut
            go_wp2_with fail
            obtain ⟨wq, rfl⟩ : ∃ wq, wq = wc := ⟨_, rfl⟩
            go_loopw [8, 59] (fun _ i wr => ∃ j : Nat, j ≤ p ∧ i = .int .i64 j ∧ Hid (AI w0 W base bo bm (.slice ad1 n k1) (.slice (some ⟨gb, go, none⟩) (n - 1) k2) cl gl a r (.slice (some ⟨g, 0, none⟩) q ocap) O (ZZ ++ (S.take j).map fun s => ownZ cl gl a r (k + 1) k (k + 1) [s.1, s.2]) wr ∧ wr.heap[D]? = some (.deferred (some [])) ∧ wr.ownsRow W.heap.size 98 2 (.slice sad p scap) p (cellsP S))) (fun _ i _ => p - (intOf i).toNat)
            case atStart => exact ⟨0, Nat.zero_le _, rfl, by unfold Hid; simpa using HC.out⟩
            case round =>
              clear HC
              obtain ⟨j, hj, rfl, HH⟩ := hrel
              obtain ⟨c0, f1, f2⟩ := HH.out.1.facts
              by_cases hlt : j < p
              · have hjp : (j : Int) < (p : Int) := by omega
                have hrw := HH.out.2.2
                obtain ⟨gs, scap', e1, hgs1, hgs2⟩ := owns_shape hrw (by omega)
                simp only [Value.slice.injEq, true_and] at e1
                obtain ⟨rfl, rfl⟩ := e1
                have hjS : j < S.length := by rw [HPL.out]; exact hlt
                obtain ⟨xy, hxy⟩ : ∃ xy, S[j]? = some xy := ⟨_, List.getElem?_eq_getElem hjS⟩
                obtain ⟨x1, y1⟩ := xy
                have cx := cellsP_get _ _ _ hxy
                have d0 : wr.cell? ⟨gs, j * 2, none⟩ = some (.int .i64 x1) := by rw [hrw.cellAt _ (by omega)]; exact cx.1
                have d1 : wr.cell? ⟨gs, j * 2 + 1, none⟩ = some (.int .i64 y1) := by rw [hrw.cellAt _ (by omega)]; exact cx.2
                have hb6 : Below wr.heap.size wr (wr.alloc (.cells #[.int .i64 x1, .int .i64 y1] 98)) := (Below.refl _ wr).alloc (Nat.le_refl _) _
                have hb7 : Below wr.heap.size wr ((wr.alloc (.cells #[.int .i64 x1, .int .i64 y1] 98)).alloc (.cells #[.int .i64 x1, .int .i64 y1] 3)) := hb6.alloc (by simp) _
                have HD7 := Lib.hid ((hb7.block D (Array.getElem?_eq_some_iff.1 HH.out.2.1).1).trans HH.out.2.1)
                have hrw7 := owns_below hrw hb7
                have HR7 := Lib.hid hrw7
                have hrep := RepOK.lit2 (wr.alloc (.cells #[.int .i64 x1, .int .i64 y1] 98)) x1 y1 k gl.length (by omega) 3
                rw [World.size_alloc] at hrep
                have hai := HH.out.1.below hb7
                have HAI := Lib.hid hai
                have HP := Lib.hid (hai.put (by omega) (by omega) hr1 (by omega) (by simp only [List.length_append, List.length_map, List.length_take]; omega) (k + 1) k (k + 1) (.slice (some ⟨wr.heap.size + 1, 0, none⟩) 2 2) [x1, y1] (by omega) hrep)
                have hS : Hid ((ZZ ++ (S.take j).map fun s => ownZ cl gl a r (k + 1) k (k + 1) [s.1, s.2]) ++ [ownZ cl gl a r (k + 1) k (k + 1) [x1, y1]] = ZZ ++ (S.take (j + 1)).map fun s => ownZ cl gl a r (k + 1) k (k + 1) [s.1, s.2]) := by
                  unfold Hid
                  have : S.take (j + 1) = S.take j ++ [(x1, y1)] := by
                    obtain ⟨h1, h2⟩ := List.getElem?_eq_some_iff.1 hxy
                    rw [List.take_succ_eq_append_getElem h1, h2]
                  rw [this, List.append_assoc]
                  simp
                have ecast : (((k + 1 : Nat) : Int)) = (k : Int) + 1 := by omega
                rw [ecast] at HP
                clear hrw hxy cx hb6 hb7 hrw7 hrep hai HH
                go_wp2_with fail
                refine HP.out.mono ?_
                rintro e w9 ⟨rfl, ha, hkk⟩
                obtain ⟨vv, hvv⟩ := HAI.out.ex
                have HA9 := Lib.hid ha
                have HD9 := Lib.hid (hkk.other HD7.out rfl hDb)
                have HR9 := Lib.hid (hkk.row hvv.box HR7.out (by decide) (by decide))
                clear ha hkk HP HD7 HR7 hvv HAI
                go_wp2_with fail
                go_roundw
                case rel => exact ⟨j + 1, by omega, by go_num, by rw [← hS.out]; exact ⟨HA9.out, HD9.out, HR9.out⟩⟩
                case measure => simp [intOf]; omega
              · obtain rfl : j = p := by omega
                have hh := HH.out
                rw [show S.take j = S from by rw [← HPL.out]; exact List.take_length, ← HM.out] at hh
                have HE := Lib.hid hh
                clear hh HH
                go_wp2_with fail
                go_roundw
                case rel => exact ⟨k + 1, by omega, by go_num, HE.out.1, HE.out.2.1⟩
                case measure => simp [intOf]; omega

end Go.Proofs.YtkkoooagamadjaaGreatDoor

namespace Go.Proofs.YtkkoooagamadjaaGreatDoor
open Go.RowKit Go.Shelf

theorem RdK.cls {w : World} {ad : Option Addr} {n cap : Nat} {cl : List (Int × Int)} (h : RdK w 2 (.slice ad n cap) n (cellsP cl)) {k : Nat} {x y : Int} (hk : cl[k]? = some (x, y)) (hn : 0 < n) :
    ∃ b off, ad = some ⟨b, off, none⟩ ∧ b < w.heap.size ∧ w.cell? ⟨b, off + k * 2, none⟩ = some (.int .i64 x) ∧ w.cell? ⟨b, off + k * 2 + 1, none⟩ = some (.int .i64 y) := by
  obtain ⟨b, off, e, hb, hc⟩ := h.at hn
  have cx := cellsP_get _ _ _ hk
  exact ⟨b, off, e, hb, hc _ _ cx.1, by rw [Nat.add_assoc]; exact hc _ _ cx.2⟩

set_option maxRecDepth 100000 in
set_option maxHeartbeats 1000000 in
theorem hasC_any {w : World} {p : Nat} {x y a : Int} (hp : Blk w p #[.int .i64 a] 3) :
    Calls Tryz.prog 79 #[.agg #[.int .i64 x, .int .i64 y], .pointer (some ⟨p, 0, none⟩)] w fun e w' => e = .returned (.bool (hasB x a)) ∧ Below w.heap.size w w' := by
  have hb : Below w.heap.size w (w.alloc (.cells #[.int .i64 x, .int .i64 y] 47)) := (Below.refl _ _).alloc (Nat.le_refl _) _
  have c0 : w.cell? ⟨p, 0, none⟩ = some (.int .i64 a) := hp.cell rfl
  have hlt := hp.lt
  have HB := Lib.hid hb
  obtain ⟨q, hq⟩ : ∃ q, hasB x a = q := ⟨_, rfl⟩
  have HQ := Lib.hid hq
  rw [hq]
  clear hb hp hq
  go_enter Tryz.func79, Tryz.ntmps79
  go_wp2_with fail
  refine (has_any x a _).mono ?_
  rintro e w' ⟨rfl, rfl⟩
  rw [HQ.out]
  go_wp2
  go_ret
  exact ⟨rfl, HB.out⟩

set_option maxRecDepth 100000 in
set_option maxHeartbeats 2000000 in
theorem indexC_any {w : World} {p : Nat} {v : Value} {cl : List (Int × Int)} {a : Int} (hv : RdK w 2 v cl.length (cellsP cl)) (hp : Blk w p #[.int .i64 a] 3) (hl : cl.length ≤ 65536) :
    Calls Tryz.prog 59 #[v, .func (.func 79) #[] #[.pointer (some ⟨p, 0, none⟩)]] w fun e w' => ∃ m : Int, e = .returned (.int .i64 m) ∧ decide (0 ≤ m) = cl.any (fun c => hasB c.1 a) ∧ Below w.heap.size w w' := by
  obtain ⟨ad, cap, rfl⟩ := hv.len
  obtain ⟨n, hn⟩ : ∃ n, cl.length = n := ⟨_, rfl⟩
  have HN := Lib.hid hn
  rw [hn] at hv hl ⊢
  have HV := Lib.hid hv; have HP := Lib.hid hp
  clear hv hp hn
  go_enter Tryz.func59, Tryz.ntmps59
  go_wp2_with fail
  go_loopw [5, 8] (fun _ i wr => ∃ k : Nat, k ≤ n ∧ i = .int .i64 k ∧ Hid (Below w.heap.size w wr ∧ (cl.take k).any (fun c => hasB c.1 a) = false)) (fun _ i _ => n - (intOf i).toNat)
  case atStart => exact ⟨0, Nat.zero_le _, rfl, Below.refl _ _, rfl⟩
  case round =>
    obtain ⟨k, hk, rfl, HH⟩ := hrel
    by_cases hlt : k < n
    · have hkn : (k : Int) < (n : Int) := by omega
      obtain ⟨xy, hxy⟩ : ∃ xy, cl[k]? = some xy := ⟨_, List.getElem?_eq_getElem (by rw [HN.out]; exact hlt)⟩
      obtain ⟨x, y⟩ := xy
      obtain ⟨b, off, rfl, hb, d0, d1⟩ := (HV.out.below HH.out.1).cls hxy (by omega)
      have HC := Lib.hid (hasC_any (x := x) (y := y) (HP.out.keep HH.out.1))
      have hT : Hid ((cl.take (k + 1)).any (fun c => hasB c.1 a) = hasB x a) := by
        obtain ⟨h1, h2⟩ := List.getElem?_eq_some_iff.1 hxy
        unfold Hid
        rw [List.take_succ_eq_append_getElem h1, List.any_append, HH.out.2, h2]
        simp
      have hA : Hid (hasB x a = true → cl.any (fun c => hasB c.1 a) = true) := fun h => List.any_eq_true.2 ⟨(x, y), List.mem_of_getElem? hxy, h⟩
      obtain ⟨q, hq⟩ : ∃ q, hasB x a = q := ⟨_, rfl⟩
      rw [hq] at HC hT hA
      have HB := Lib.hid HH.out.1
      clear hxy hq HH
      go_wp2_with fail
      refine HC.out.mono ?_
      rintro e w5 ⟨rfl, hb5⟩
      have HB5 := Lib.hid (HB.out.trans (hb5.mono HB.out.size))
      clear hb5
      cases q
      · go_wp2
        go_roundw
        case rel => exact ⟨k + 1, by omega, by go_num, HB5.out, hT.out⟩
        case measure => simp [intOf]; omega
      · go_wp2
        go_ret
        exact ⟨(k : Int), rfl, by rw [hA.out (by trivial)]; simp, HB5.out⟩
    · obtain rfl : k = n := by omega
      have hF := HH.out.2
      rw [show cl.take k = cl from by rw [← HN.out]; exact List.take_length] at hF
      have HF := Lib.hid hF
      have HB := Lib.hid HH.out.1
      clear hF HH
      go_wp2
      go_ret
      exact ⟨-1, rfl, by rw [HF.out]; simp, HB.out⟩

set_option maxRecDepth 100000 in
set_option maxHeartbeats 2000000 in
theorem putHas_any {w : World} {v1 v2 : Value} {cl : List (Int × Int)} {gl : List Int} {a : Int} (hz : ZoneIn w v1 v2 cl gl) (hl : cl.length ≤ 65536) :
    Calls Tryz.prog 46 #[.agg #[v1, v2], .int .i64 a] w fun e w' => e = .returned (.bool (cl.any (fun c => hasB c.1 a))) ∧ Below w.heap.size w w' := by
  obtain ⟨ad1, k1, e1⟩ := hz.1.len
  obtain ⟨ad2, k2, e2⟩ := hz.2.len
  obtain ⟨W1, hW1⟩ : ∃ W1, w.alloc (.cells #[v1, v2] 28) = W1 := ⟨_, rfl⟩
  have hb1 : Below w.heap.size w W1 := by rw [← hW1]; exact (Below.refl _ _).alloc (Nat.le_refl _) _
  have hs1 : W1.heap.size = w.heap.size + 1 := by rw [← hW1]; simp
  have x1 : Blk W1 w.heap.size #[v1, v2] 28 := by rw [← hW1]; exact Blk.new _ _ _
  obtain ⟨W2, hW2⟩ : ∃ W2, W1.alloc (.cells #[.int .i64 a] 3) = W2 := ⟨_, rfl⟩
  have hs2 : W2.heap.size = w.heap.size + 2 := by rw [← hW2]; simp [hs1]
  have x2 : Blk W2 (w.heap.size + 1) #[.int .i64 a] 3 := by rw [← hW2, ← hs1]; exact Blk.new _ _ _
  have hb2 : Below w.heap.size w W2 := by rw [← hW2]; exact hb1.alloc (by omega) _
  have x12 : Blk W2 w.heap.size #[v1, v2] 28 := by rw [← hW2]; exact x1.alloc _
  have c0 := x12.two.1
  have HI := Lib.hid (indexC_any (a := a) (hz.below hb2).1 x2 hl)
  have HB := Lib.hid hb2
  obtain ⟨q, hq⟩ : ∃ q, cl.any (fun c => hasB c.1 a) = q := ⟨_, rfl⟩
  rw [hq] at HI ⊢
  subst e1; subst e2
  have HCF : Hid (Calls Tryz.prog 78 #[.slice ad1 cl.length k1, .func (.func 79) #[] #[.pointer (some ⟨w.heap.size + 1, 0, none⟩)]] W2 fun e w' => e = .returned (.bool q) ∧ Below W2.heap.size W2 w') := by
    unfold Hid
    clear hz hb1 x1 x2 hb2 x12 hq hW1 hW2 hs1 hs2 c0
    obtain ⟨n, hn⟩ : ∃ n, cl.length = n := ⟨_, rfl⟩
    rw [hn] at HI ⊢
    go_enter Tryz.func78, Tryz.ntmps78
    go_wp2_with fail
    refine HI.out.mono ?_
    rintro e w5 ⟨m, rfl, hm, hb5⟩
    have HB5 := Lib.hid hb5
    have HMM := Lib.hid hm
    clear hb5 hm
    go_wp2
    go_ret
    exact ⟨ret_bool HMM.out, HB5.out⟩
  obtain ⟨n, hn⟩ : ∃ n, cl.length = n := ⟨_, rfl⟩
  obtain ⟨m, hm⟩ : ∃ m, gl.length = m := ⟨_, rfl⟩
  rw [hn] at c0
  rw [hn, hm] at hW1
  rw [hn] at HCF
  rw [hn, hm]
  clear hz hb1 x1 x2 hb2 x12 hq HI
  go_enter Tryz.func46, Tryz.ntmps46
  go_wp2_with fail
  refine HCF.out.mono ?_
  rintro e w5 ⟨rfl, hb5⟩
  have HB5 := Lib.hid (HB.out.trans (hb5.mono HB.out.size))
  clear hb5
  go_wp2
  go_ret
  exact ⟨rfl, HB5.out⟩

set_option maxHeartbeats 400000 in
theorem putFormed_any {w : World} {v1 v2 : Value} {cl : List (Int × Int)} {gl : List Int} (hz : ZoneIn w v1 v2 cl gl) (hcl : cl.length ≤ 65536) :
    Calls Tryz.prog 47 #[.agg #[v1, v2]] w fun e w' => e = .returned (.bool (decide (gl.length = cl.length - 1))) ∧ Below w.heap.size w w' := by
  obtain ⟨ad1, cap1, rfl⟩ := hz.1.len
  obtain ⟨ad2, cap2, rfl⟩ := hz.2.len
  obtain ⟨n, hn⟩ : ∃ n, cl.length = n := ⟨_, rfl⟩
  obtain ⟨m, hm⟩ : ∃ m, gl.length = m := ⟨_, rfl⟩
  rw [hn] at hcl ⊢; rw [hm]
  clear hz hn hm
  have hcase : n = 0 ∨ n = 1 ∨ 1 < n := by omega
  rcases hcase with rfl | rfl | h1
  all_goals
    go_enter Tryz.func47, Tryz.ntmps47
    go_wp2
    go_ret
    refine ⟨ret_bool ?_, (Below.refl _ w).alloc (Nat.le_refl _) _⟩
    rw [Bool.eq_iff_iff]
    simp
    try omega

end Go.Proofs.YtkkoooagamadjaaGreatDoor
