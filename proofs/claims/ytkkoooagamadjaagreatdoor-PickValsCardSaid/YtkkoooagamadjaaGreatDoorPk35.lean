/- zone.points. zone.Of: the appends to a zone in a box. -/
import Derived.Test.YtkkoooagamadjaaGreatDoorPk33
import Derived.Test.YtkkoooagamadjaaGreatDoorPk34
import Derived.Test.YtkkoooagamadjaaGreatDoorPk10
import Derived.Test.YtkkoooagamadjaaGreatDoorPk07
import Derived.Test.YtkkoooagamadjaaGreatDoorPk12
import Derived.Deep.DeepCutAuto
import Derived.Deep.CutRange
import Derived.Test.YtkkoooagamadjaaGreatDoorPk31
import Derived.Test.YtkkoooagamadjaaGreatDoorPk14

namespace Go.Proofs.YtkkoooagamadjaaGreatDoor
open Go.RowKit

theorem info_pt : (Tryz.prog.info? 51).map (fun i => (i.zero, i.size, i.bytes)) = some (some (.agg #[.int .i64 0, .int .i64 0, .int .i64 0]), 3, 24) := by kernel_rfl
/-- a row of points in memory of its own -/
def PR (W : World) (base : Nat) (v : Value) (p : Nat) (L : List Pt) : Prop := L.length = p ∧ W.ownsRow base 51 3 v p (cellsT L)
theorem PR.nil (W : World) (base : Nat) : PR W base (.slice none 0 0) 0 [] := ⟨rfl, World.ownsRow_nil _ _ _ _⟩
theorem PR.below {W W' : World} {base p : Nat} {v : Value} {L : List Pt} (h : PR W base v p L) (hb : Below W.heap.size W W') : PR W' base v p L := ⟨h.1, owns_below h.2 hb⟩
theorem PR.app {W : World} {base q : Nat} {v : Value} {L : List Pt} (h : PR W base v q L) (p : Pt) (hb : base ≤ W.heap.size) (hl : q ≤ 100000) (ty : TypeId) :
    ∃ x y w', (Builtin.append_ #[48, 48] ty #[v, .slice (some ⟨W.heap.size, 0, none⟩) 1 1]).run Tryz.prog (W.alloc (.cells #[.int .i64 p.1, .int .i64 p.2.1, .int .i64 p.2.2] 51)) = .ok (.slice x (q + 1) y) w' ∧ PR w' base (.slice x (q + 1) y) (q + 1) (L ++ [p]) ∧ Below base W w' := by
  have hba : Below W.heap.size W (W.alloc (.cells #[.int .i64 p.1, .int .i64 p.2.1, .int .i64 p.2.2] 51)) := (Below.refl _ W).alloc (Nat.le_refl _) _
  have ha := h.below hba
  have hrd : RdK (W.alloc (.cells #[.int .i64 p.1, .int .i64 p.2.1, .int .i64 p.2.2] 51)) 3 (.slice (some ⟨W.heap.size, 0, none⟩) 1 1) 1 (cellsT [p]) := by
    refine ⟨_, _, rfl, rfl, .inr ⟨W.heap.size, 0, rfl, by simp, fun t x hx => ?_⟩⟩
    rw [World.cell?_alloc_at _ _ _ _ (by simp), Nat.zero_add, ← Array.getElem?_toList]
    exact hx
  obtain ⟨v', w', hrun, ho, hg⟩ := appK_run (P := Tryz.prog) _ 48 ty 51 (.agg #[.int .i64 0, .int .i64 0, .int .i64 0]) 3 24 base Tryz.underlying48 info_pt rfl (by decide) (by decide) v q (cellsT L) ha.2 _ 1 (cellsT [p]) hrd (cellsT_one _) (by omega) (Nat.le_trans hb hba.size)
  obtain ⟨x, y, hv⟩ := owns_len ho
  subst hv
  refine ⟨x, y, w', hrun, ⟨by rw [List.length_append, h.1]; rfl, ?_⟩, (hba.mono hb).grown hg (Nat.le_trans hb hba.size) (fun k hk => (ha.2.lt k hk).1)⟩
  rw [show cellsT (L ++ [p]) = cellsT L ++ cellsT [p] by simp [cellsT]]
  exact ho

theorem owns_cap' {w : World} {base : Nat} {e : TypeId} {sz n cap : Nat} {ad : Option Addr} {xs : List Value} (h : w.ownsRow base e sz (.slice ad n cap) n xs) : n ≤ cap := by
  rcases h.2 with ⟨h1, h0⟩ | ⟨g, cap', cur, hv, _, _, hn, _⟩
  · omega
  · cases hv; exact hn

theorem reads_oneI (w : World) (a : Int) (e : TypeId) : Reads (w.alloc (.cells #[.int .i64 a] e)) (.slice (some ⟨w.heap.size, 0, none⟩) 1 1) (ints [a]) := by
  refine .inr ⟨w.heap.size, 0, 1, rfl, by simp, by simp [ints, maxLen], fun t x hx => ?_⟩
  rw [World.cell?_alloc_at _ _ _ _ (by simp)]
  simpa [ints] using hx
theorem cellsT_setA (X : List Pt) (y a c b : Int) : (cellsT (X ++ [(y, a, c)])).set (X.length * 3 + 1) (.int .i64 b) = cellsT (X ++ [(y, b, c)]) := by
  rw [cellsT_snoc, cellsT_snoc]
  have hl := cellsT_len X
  rw [List.set_append_right _ _ (by omega), hl]
  simp

/-- the points that are in order of numbers, each number once -/
def pntZ (vals consts : List Int) : List Pt := (sortS (vals ++ consts)).map fun y => (y, clsZ (pZ vals) vals.length (sortS consts) y)

set_option maxRecDepth 100000 in
set_option maxHeartbeats 4000000 in
theorem points_any {w : World} {v0 v1 : Value} {vals consts : List Int} (h0 : RowE intE 1 w v0 vals) (h1 : Reads w v1 (ints consts)) (hc : consts.length ≤ 12) (hv : vals.length + consts.length ≤ 19) :
    Calls Tryz.prog 17 #[v0, v1] w fun e w' => ∃ v', e = .returned v' ∧ w'.ownsRow w.heap.size 51 3 v' (pntZ vals consts).length (cellsT (pntZ vals consts)) ∧ Below w.heap.size w w' := by
  have HSO := Lib.hid (sorted64_any h1 hc)
  obtain ⟨ad1, cap1, e1, -⟩ := h1.len
  rw [ints_len] at e1
  subst e1
  have hcap0 : ∃ ad0 cap0, v0 = .slice ad0 vals.length cap0 ∧ vals.length ≤ cap0 := by
    obtain ⟨ad, cap, e, h, _⟩ := h0
    exact ⟨ad, cap, e, h.2.1⟩
  obtain ⟨ad0, cap0, rfl, hcp0⟩ := hcap0
  have hsl := sortS_len consts
  obtain ⟨n, hn⟩ : ∃ n, vals.length = n := ⟨_, rfl⟩
  obtain ⟨C, hC⟩ : ∃ C, sortS consts = C := ⟨_, rfl⟩
  obtain ⟨m, hm⟩ : ∃ m, C.length = m := ⟨_, rfl⟩
  have HV := Lib.hid h0; have HN := Lib.hid hn; have HC := Lib.hid hC; have HM := Lib.hid hm
  rw [hC, hm] at hsl
  rw [hC, hm] at HSO
  rw [hn] at hv hcp0 ⊢
  have hn19 : n ≤ 19 := by omega
  have hm12 : m ≤ 12 := by omega
  have hnm : n + m ≤ 19 := by omega
  clear h0 h1 hn hC hm
  go_enter Tryz.func17, Tryz.ntmps17
  go_wp2_with fail
  refine HSO.out.mono ?_
  rintro e wc ⟨vc, rfl, hoc, hbc⟩
  obtain ⟨adc, capc, hvc⟩ := owns_len hoc
  subst hvc
  have HOC := Lib.hid hoc; have HBC := Lib.hid hbc
  clear hoc hbc HSO
  go_wp2_with fail
  go_loopw [5, 17] (fun v i wr => ∃ (k : Nat) (x : Option Addr) (y : Nat), k ≤ m ∧ i = .int .i64 k ∧ v = .slice x k y ∧ Hid (PR wr wc.heap.size (.slice x k y) k (ptsC (C.take k) 0)) ∧ Hid (Below wc.heap.size wc wr)) (fun _ i _ => m - (intOf i).toNat)
  case atStart => exact ⟨0, none, 0, Nat.zero_le _, rfl, rfl, PR.nil _ _, Below.refl _ _⟩
  case round =>
    obtain ⟨k, x, y, hk, rfl, rfl, HR, HB⟩ := hrel
    by_cases hlt : k < m
    · have hkn : (k : Int) < (m : Int) := by omega
      have hk0 : (0 : Int) ≤ (k : Int) := by omega
      obtain ⟨c, hcc⟩ : ∃ c, C[k]? = some c := ⟨_, List.getElem?_eq_getElem (by rw [HM.out]; exact hlt)⟩
      have hro := owns_below HOC.out HB.out
      obtain ⟨gc, q1, t1⟩ := owns_slice hro (by omega)
      cases t1
      have d0 : wr.cell? ⟨gc, k, none⟩ = some (.int .i64 c) := by rw [hro.cellAt _ (by omega)]; exact ints_get hcc
      have htk : ptsC (C.take (k + 1)) 0 = ptsC (C.take k) 0 ++ [(c, 0, (k : Int))] := by
        rw [List.take_add_one, hcc]
        show ptsC (C.take k ++ [c]) 0 = _
        rw [ptsC_snoc, List.length_take, Nat.zero_add, Nat.min_eq_left (by rw [HM.out]; omega)]
      obtain ⟨x', y', w9, hrun, hr9, hb9⟩ := HR.out.app (c, 0, (k : Int)) HB.out.size (by omega) 48
      rw [← htk] at hr9
      have HR9 := Lib.hid hr9
      have HB9 := Lib.hid (HB.out.trans (hb9.mono (Nat.le_refl _)))
      clear hcc hro htk hr9 hb9 HR HB
      go_wp2_with (first | (at_builtin; refine wpList_append_known _ rfl _ _ _ _ rfl _ _ rfl rfl _ _ hrun ?_; clear hrun d0) | fail)
      go_roundw
      case rel => exact ⟨k + 1, x', y', by omega, by go_num, rfl, HR9, HB9⟩
      case measure => simp [intOf]; omega
    · obtain rfl : k = m := by omega
      have hR := HR.out
      rw [List.take_of_length_le (by rw [HM.out]; exact Nat.le_refl _)] at hR
      have HRC := Lib.hid hR
      obtain ⟨wd, rfl⟩ : ∃ wd, wd = wr := ⟨_, rfl⟩
      have HBD := HB
      have hmin : min (n : Int) 31 = (n : Int) := by omega
      have hn0 : (0 : Int) ≤ (n : Int) := by omega
      have hnc : (n : Int) ≤ (cap0 : Int) := by omega
      have hmin2 : min n 31 = n := by omega
      clear hR HR HB
      go_wp2_with fail
      go_loopw [5, 36] (fun v i wr => ∃ (j : Nat) (x : Option Addr) (y : Nat), j ≤ n ∧ i = .int .i64 j ∧ v = .slice x (k + j) y ∧ Hid (PR wr wc.heap.size (.slice x (k + j) y) (k + j) (ptsC C 0 ++ ptsV (vals.take j) 0)) ∧ Hid (Below wc.heap.size wc wr)) (fun _ i _ => n - (intOf i).toNat)
      case atStart => exact ⟨0, x, y, Nat.zero_le _, rfl, rfl, Lib.hid (by have := HRC.out; simpa [ptsV] using this), HBD⟩
      case round =>
        clear HRC HBD
        obtain ⟨j, x, y, hj, rfl, rfl, HR, HB⟩ := hrel
        by_cases hlt2 : j < n
        · have hjn : (j : Int) < (n : Int) := by omega
          have hj0 : (0 : Int) ≤ (j : Int) := by omega
          obtain ⟨v, hvv⟩ : ∃ v, vals[j]? = some v := ⟨_, List.getElem?_eq_getElem (by rw [HN.out]; exact hlt2)⟩
          have hlw : Below w.heap.size w wr := HBC.out.trans (HB.out.mono HBC.out.size)
          obtain ⟨b0, o0, k0, e0, _, d0⟩ := (HV.out.below intE_keep hlw).int hvv
          rw [HN.out] at e0
          cases e0
          have htk : ptsV (vals.take (j + 1)) 0 = ptsV (vals.take j) 0 ++ [(v, bitZ (j : Int), -1)] := by
            rw [List.take_add_one, hvv]
            show ptsV (vals.take j ++ [v]) 0 = _
            rw [ptsV_snoc, List.length_take, Nat.zero_add, Nat.min_eq_left (by rw [HN.out]; omega)]
          have hba : Below wr.heap.size wr (wr.alloc (.cells #[.int .i64 j] 3)) := (Below.refl _ _).alloc (Nat.le_refl _) _
          have HOF : Hid (Calls Tryz.prog 42 #[.slice (some ⟨wr.heap.size, 0, none⟩) 1 1] (wr.alloc (.cells #[.int .i64 j] 3)) fun e w' => e = .returned (.int .i64 (bitZ (j : Int))) ∧ wr.alloc (.cells #[.int .i64 j] 3) = w') :=
            of_any (.slice (some ⟨wr.heap.size, 0, none⟩) 1 1) [(j : Int)] _ (reads_oneI wr j 3)
          have hra := HR.out.below hba
          have hsb : wc.heap.size ≤ (wr.alloc (.cells #[.int .i64 j] 3)).heap.size := Nat.le_trans HB.out.size hba.size
          obtain ⟨x', y', w9, hrun, hr9, hb9⟩ := hra.app (v, bitZ (j : Int), -1) hsb (by omega) 48
          rw [List.append_assoc, ← htk] at hr9
          have HR9 := Lib.hid hr9
          have HB9 := Lib.hid ((HB.out.trans (hba.mono HB.out.size)).trans (hb9.mono (Nat.le_refl _)))
          have hjj : k + j + 1 = k + (j + 1) := by omega
          rw [hjj] at HR9 hrun
          obtain ⟨bz, hbz⟩ : ∃ bz, bitZ (j : Int) = bz := ⟨_, rfl⟩
          rw [hbz] at HOF hrun
          clear hvv htk hba hra hsb hr9 hb9 HR HB hlw hbz hjj
          obtain ⟨wq, hwq⟩ : ∃ wq, wr.alloc (.cells #[.int .i64 j] 3) = wq := ⟨_, rfl⟩
          rw [hwq] at HOF hrun
          go_wp2_with fail
          refine HOF.out.mono ?_
          rintro e w5 ⟨rfl, hw5⟩
          rw [← hw5]
          clear hw5 w5 HOF
          go_wp2_with (first | (at_builtin; refine wpList_append_known _ rfl _ _ _ _ rfl _ _ rfl rfl _ _ hrun ?_; clear hrun d0) | fail)
          go_roundw
          case rel => exact ⟨j + 1, x', y', by omega, by go_num, rfl, HR9, HB9⟩
          case measure => simp [intOf]; omega
        · obtain rfl : j = n := by omega
          have hR := HR.out
          rw [List.take_of_length_le (by rw [HN.out]; exact Nat.le_refl _), ← HC.out, show ptsC (sortS consts) 0 ++ ptsV vals 0 = allP vals consts from rfl] at hR
          have hln := hR.1
          have HSS := Lib.hid (sortStable_any wc.heap.size _ (allP vals consts) wr (by rw [hR.1]; exact hR.2) (by rw [hR.1]; omega))
          have HLN := Lib.hid hln
          have HRB := Lib.hid hR.2
          obtain ⟨N, hN⟩ : ∃ N, k + j = N := ⟨_, rfl⟩
          rw [hN] at HSS HRB HLN ⊢
          have hN19 : N ≤ 19 := by omega
          clear hR hln HR hN
          go_wp2_with fail
          refine HSS.out.mono ?_
          rintro e w5 ⟨rfl, Q, hq, hoq, hgq⟩
          rw [HLN.out] at hoq
          have hout := outP_all vals consts (by rw [HN.out]; omega) hq
          have hql : Q.length = N := by rw [hq.perm.length_eq]; exact HLN.out
          have HQ := Lib.hid hq; have HQL := Lib.hid hql; have HOUT := Lib.hid hout
          have HOQ := Lib.hid hoq
          have HOKQ : Hid (∀ p ∈ Q, PtOK p) := Lib.hid fun p hp => allP_ok vals consts p (hq.perm.mem_iff.1 hp)
          have HB5 := Lib.hid ((HB.out.grown hgq HB.out.size (fun k hk => (HRB.out.lt k hk).1)))
          clear hq hql hout hoq hgq HB HSS HRB
          go_wp2_with fail
          go_loopw [10, 55] (fun v i wr => ∃ (t q : Nat) (x : Option Addr) (y : Nat), t ≤ N ∧ i = .int .i64 t ∧ v = .slice x q y ∧ q ≤ t ∧ Hid (PR wr w5.heap.size (.slice x q y) q (outP (Q.take t))) ∧ Hid (Below w5.heap.size w5 wr)) (fun _ i _ => N - (intOf i).toNat)
          case atStart => exact ⟨0, 0, none, 0, Nat.zero_le _, rfl, rfl, Nat.le_refl _, Lib.hid (by rw [List.take_zero, show outP [] = [] by unfold outP; rw [List.map_nil, sortS_nil]; rfl]; exact PR.nil _ _), Below.refl _ _⟩
          case round =>
            obtain ⟨t, q, x, y, ht, rfl, rfl, hqt, HR, HB⟩ := hrel
            by_cases hlt3 : t < N
            · have htn : (t : Int) < (N : Int) := by omega
              have ht0 : (0 : Int) ≤ (t : Int) := by omega
              obtain ⟨p, hp⟩ : ∃ p, Q[t]? = some p := ⟨_, List.getElem?_eq_getElem (by rw [HQL.out]; exact hlt3)⟩
              have hro := owns_below HOQ.out HB.out
              obtain ⟨gq, q1, t1⟩ := owns_slice hro (by omega)
              cases t1
              obtain ⟨cx0, cx1, cx2⟩ := cellsT_get _ _ _ hp
              have d0 : wr.cell? ⟨gq, t * 3, none⟩ = some (.int .i64 p.1) := by rw [hro.cellAt _ (by omega)]; exact cx0
              have d1 : wr.cell? ⟨gq, t * 3 + 1, none⟩ = some (.int .i64 p.2.1) := by rw [hro.cellAt _ (by omega)]; exact cx1
              have d2 : wr.cell? ⟨gq, t * 3 + 2, none⟩ = some (.int .i64 p.2.2) := by rw [hro.cellAt _ (by omega)]; exact cx2
              have htk : Q.take (t + 1) = Q.take t ++ [p] := by rw [List.take_add_one, hp]; rfl
              have hok := HOKQ.out p (List.mem_of_getElem? hp)
              have hle : ∀ z ∈ Q.take t, z.1 ≤ p.1 := fun z hz => by
                have hs := HQ.out.sorted
                have hsp : (Q.take t ++ [p]).Pairwise (fun a b : Pt => a.1 ≤ b.1) := by rw [← htk]; exact hs.sublist (List.take_sublist _ _)
                exact (List.pairwise_append.1 hsp).2.2 z hz p (by simp)
              obtain ⟨W6, hW6⟩ : ∃ W6, wr.alloc (.cells #[.int .i64 p.1, .int .i64 p.2.1, .int .i64 p.2.2] 51) = W6 := ⟨_, rfl⟩
              have hb6 : Below wr.heap.size wr W6 := by rw [← hW6]; exact (Below.refl _ _).alloc (Nat.le_refl _) _
              have x6 : Blk W6 wr.heap.size #[.int .i64 p.1, .int .i64 p.2.1, .int .i64 p.2.2] 51 := by rw [← hW6]; exact Blk.new _ _ _
              have f0 := x6.cell (i := 0) rfl; have f1 := x6.cell (i := 1) rfl; have f2 := x6.cell (i := 2) rfl
              have HX6 := Lib.hid x6
              have HB6 := Lib.hid (HB.out.trans (hb6.mono HB.out.size))
              have HR6 := Lib.hid (HR.out.below hb6)
              have HLT := Lib.hid (fun k (hk : (Value.slice x q y).ownBlock = some k) => (HR.out.2.lt k hk).2)
              have HTK := Lib.hid htk; have HOK := Lib.hid hok; have HLE := Lib.hid hle
              clear hp hro cx0 cx1 cx2 htk hok hle hb6 x6 HR HB
              by_cases hm : ∃ z ∈ Q.take t, z.1 = p.1
              · obtain ⟨X, al, cl, e1, e2⟩ := outP_same (Q.take t) p HLE.out hm HOK.out
                have hr := HR6.out
                rw [e1] at hr
                have hq1 : q = X.length + 1 := by rw [← hr.1]; simp
                obtain ⟨K, hK⟩ : ∃ K, X.length = K := ⟨_, rfl⟩
                rw [hK] at hq1
                have hro := hr.2
                obtain ⟨go, r1, t1⟩ := owns_slice hro (by omega)
                cases t1
                obtain ⟨cy0, cy1, cy2⟩ := cellsT_get (X ++ [(p.1, al, cl)]) K (p.1, al, cl) (by rw [← hK]; simp)
                have o0 : W6.cell? ⟨go, K * 3, none⟩ = some (.int .i64 p.1) := by rw [hro.cellAt _ (by omega)]; exact cy0
                have o1 : W6.cell? ⟨go, K * 3 + 1, none⟩ = some (.int .i64 al) := by rw [hro.cellAt _ (by omega)]; exact cy1
                have of1 := owns_frozen hro (K * 3 + 1)
                have hwp : IntKind.i64.wrap ((q : Int) - 1) = (K : Int) := by rw [IntKind.wrap_i64]; omega
                have hK0 : (0 : Int) ≤ (K : Int) := by omega
                have hKq : (K : Int) < (q : Int) := by omega
                have hbx : go < wr.heap.size := HLT.out go rfl
                have hgo : w5.heap.size ≤ go := (hro.lt go rfl).1
                have hset := owns_set hro (K * 3 + 1) (.int .i64 (bits .or .i64 al p.2.1))
                rw [← hK, cellsT_setA X p.1 al cl] at hset
                rw [hK] at hset
                have HPR : Hid (PR (W6.setCell ⟨go, K * 3 + 1, none⟩ (.int .i64 (bits .or .i64 al p.2.1))) w5.heap.size (.slice (some ⟨go, 0, none⟩) q y) q (outP (Q.take (t + 1)))) := by
                  unfold Hid
                  rw [HTK.out, e2]
                  exact ⟨by simp; omega, hset⟩
                have HBF := Lib.hid (HB6.out.setCell (p := ⟨go, K * 3 + 1, none⟩) hgo (.int .i64 (bits .or .i64 al p.2.1)))
                have HGO : Hid (wr.heap.size ≠ go) := by unfold Hid; omega
                have hne := HGO.out
                have hqt' : q ≤ t + 1 := by omega
                clear hset hr hro e1 e2 hm cy0 cy1 cy2 HR6 HX6 HLT hbx hK HTK HOK HLE
                go_wp2_with fail
                go_quiet (fail)
                generalize hwq : W6.drewN nq = wq
                have g0 : wq.cell? ⟨wr.heap.size, 1, none⟩ = some (.int .i64 p.2.1) := by rw [← hwq, World.cell?_drewN]; exact f1
                have g1 : wq.cell? ⟨go, K * 3 + 1, none⟩ = some (.int .i64 al) := by rw [← hwq, World.cell?_drewN]; exact o1
                have g2 : wq.frozen? ⟨go, K * 3 + 1, none⟩ = false := by rw [← hwq, World.frozen?_drewN]; exact of1
                have HPR2 : Hid (PR (wq.setCell ⟨go, K * 3 + 1, none⟩ (.int .i64 (bits .or .i64 al p.2.1))) w5.heap.size (.slice (some ⟨go, 0, none⟩) q y) q (outP (Q.take (t + 1)))) := by rw [← hwq]; exact HPR
                have HBF2 : Hid (Below w5.heap.size w5 (wq.setCell ⟨go, K * 3 + 1, none⟩ (.int .i64 (bits .or .i64 al p.2.1)))) := by
                  rw [← hwq]
                  exact (below_drewN HB6.out nq).setCell (p := ⟨go, K * 3 + 1, none⟩) hgo _
                clear hwq f0 f1 f2 o0 o1 of1 d0 d1 d2 HPR HBF
                go_wp2_with fail
                go_region
                all_goals
                  go_wp2_with fail
                  go_roundw
                  case rel => first | exact ⟨t + 1, q, _, y, by omega, by go_num, rfl, hqt', HPR2, HBF2⟩ | exact ⟨t + 1, q, _, y, by omega, by go_num, rfl, hqt', HPR2, below_drewN HBF2.out 1⟩
                  case measure => simp [intOf]; omega
              · have hlt4 : ∀ z ∈ Q.take t, z.1 < p.1 := fun z hz => by
                  have h1 := HLE.out z hz
                  have h2 : z.1 ≠ p.1 := fun e => hm ⟨z, hz, e⟩
                  omega
                have e2 := outP_new (Q.take t) p hlt4 HOK.out
                have HE2 : Hid (outP (Q.take (t + 1)) = outP (Q.take t) ++ [p]) := by unfold Hid; rw [HTK.out]; exact e2
                have HNE : Hid (∀ X yl al cl, outP (Q.take t) = X ++ [(yl, al, cl)] → yl ≠ p.1) := Lib.hid fun X yl al cl e h => by
                  have hmem : (yl, al, cl) ∈ outP (Q.take t) := by rw [e]; simp
                  unfold outP at hmem
                  obtain ⟨z, hz, ez⟩ := List.mem_map.1 hmem
                  obtain ⟨r, hr, e3⟩ := List.mem_map.1 (((sortS_ok _).2 z).1 hz)
                  have h4 := hlt4 r hr
                  have h5 : z = yl := by cases ez; rfl
                  omega
                clear hlt4 e2 hm HOK HLE HTK HLT HX6
                by_cases hq0 : q = 0
                · subst hq0
                  go_wp2_with fail
                  go_quiet (fail)
                  generalize hwq : W6.drewN nq = wq
                  have g0 : wq.cell? ⟨wr.heap.size, 0, none⟩ = some (.int .i64 p.1) := by rw [← hwq, World.cell?_drewN]; exact f0
                  have g1 : wq.cell? ⟨wr.heap.size, 1, none⟩ = some (.int .i64 p.2.1) := by rw [← hwq, World.cell?_drewN]; exact f1
                  have g2 : wq.cell? ⟨wr.heap.size, 2, none⟩ = some (.int .i64 p.2.2) := by rw [← hwq, World.cell?_drewN]; exact f2
                  have HRQ : Hid (PR wq w5.heap.size (.slice x 0 y) 0 (outP (Q.take t))) := by rw [← hwq]; exact HR6
                  have HBQ : Hid (Below w5.heap.size w5 wq) := by rw [← hwq]; exact below_drewN HB6.out nq
                  clear hwq f0 f1 f2 d0 d1 d2 HR6 HB6
                  obtain ⟨x', y', w9, hrun, hr9, hb9⟩ := HRQ.out.app p HBQ.out.size (by omega) 48
                  rw [← HE2.out] at hr9
                  have HR9 := Lib.hid hr9
                  have HB9 := Lib.hid (HBQ.out.trans (hb9.mono (Nat.le_refl _)))
                  clear hr9 hb9 HNE HE2 HRQ HBQ
                  go_wp2_with (first | (at_builtin; refine wpList_append_known _ rfl _ _ _ _ rfl _ _ rfl rfl _ _ hrun ?_; clear hrun g0 g1 g2) | fail)
                  go_roundw
                  case rel => exact ⟨t + 1, 0 + 1, x', y', by omega, by go_num, rfl, by omega, HR9, HB9⟩
                  case measure => simp [intOf]; omega
                · obtain ⟨X, yl, al, cl, e1⟩ : ∃ X yl al cl, outP (Q.take t) = X ++ [(yl, al, cl)] := by
                    rcases List.eq_nil_or_concat (outP (Q.take t)) with h0 | ⟨X, z, h0⟩
                    · have := HR6.out.1
                      rw [h0] at this
                      exact absurd this.symm hq0
                    · exact ⟨X, z.1, z.2.1, z.2.2, by rw [h0]; simp⟩
                  have hyl := HNE.out X yl al cl e1
                  have hr := HR6.out
                  rw [e1] at hr
                  have hq1 : q = X.length + 1 := by rw [← hr.1]; simp
                  obtain ⟨K, hK⟩ : ∃ K, X.length = K := ⟨_, rfl⟩
                  rw [hK] at hq1
                  have hro := hr.2
                  obtain ⟨go, r1, t1⟩ := owns_slice hro (by omega)
                  cases t1
                  obtain ⟨cy0, cy1, cy2⟩ := cellsT_get (X ++ [(yl, al, cl)]) K (yl, al, cl) (by rw [← hK]; simp)
                  have o0 : W6.cell? ⟨go, K * 3, none⟩ = some (.int .i64 yl) := by rw [hro.cellAt _ (by omega)]; exact cy0
                  have hwp : IntKind.i64.wrap ((q : Int) - 1) = (K : Int) := by rw [IntKind.wrap_i64]; omega
                  have hK0 : (0 : Int) ≤ (K : Int) := by omega
                  have hKq : (K : Int) < (q : Int) := by omega
                  have hyb : (yl == p.1) = false := by simpa using hyl
                  clear hr hro e1 cy0 cy1 cy2 hK hyl
                  go_wp2_with fail
                  go_quiet (fail)
                  generalize hwq : W6.drewN nq = wq
                  have g0 : wq.cell? ⟨wr.heap.size, 0, none⟩ = some (.int .i64 p.1) := by rw [← hwq, World.cell?_drewN]; exact f0
                  have g1 : wq.cell? ⟨wr.heap.size, 1, none⟩ = some (.int .i64 p.2.1) := by rw [← hwq, World.cell?_drewN]; exact f1
                  have g2 : wq.cell? ⟨wr.heap.size, 2, none⟩ = some (.int .i64 p.2.2) := by rw [← hwq, World.cell?_drewN]; exact f2
                  have HRQ : Hid (PR wq w5.heap.size (.slice (some ⟨go, 0, none⟩) q y) q (outP (Q.take t))) := by rw [← hwq]; exact HR6
                  have HBQ : Hid (Below w5.heap.size w5 wq) := by rw [← hwq]; exact below_drewN HB6.out nq
                  clear hwq f0 f1 f2 o0 d0 d1 d2 HR6 HB6
                  obtain ⟨x', y', w9, hrun, hr9, hb9⟩ := HRQ.out.app p HBQ.out.size (by omega) 48
                  rw [← HE2.out] at hr9
                  have HR9 := Lib.hid hr9
                  have HB9 := Lib.hid (HBQ.out.trans (hb9.mono (Nat.le_refl _)))
                  clear hr9 hb9 HNE HE2 HRQ HBQ
                  go_wp2_with (first | (at_builtin; refine wpList_append_known _ rfl _ _ _ _ rfl _ _ rfl rfl _ _ hrun ?_; clear hrun g0 g1 g2) | fail)
                  go_roundw
                  case rel => exact ⟨t + 1, q + 1, x', y', by omega, by go_num, by rw [hq1], by omega, HR9, HB9⟩
                  case measure => simp [intOf]; omega
            · obtain rfl : t = N := by omega
              have hR := HR.out
              rw [List.take_of_length_le (by rw [HQL.out]; exact Nat.le_refl _), HOUT.out] at hR
              have HF := Lib.hid hR
              have HFB := Lib.hid (HBC.out.trans ((HB5.out.trans (HB.out.mono HB5.out.size)).mono HBC.out.size))
              have hws : w.heap.size ≤ w5.heap.size := Nat.le_trans HBC.out.size HB5.out.size
              have HWS := Lib.hid hws
              clear hR HR HB hws
              go_wp2
              go_ret
              refine ⟨_, rfl, ?_, HFB.out⟩
              have h1 := HF.out.1
              have h2 := owns_mono HF.out.2 HWS.out
              rw [← h1] at h2 ⊢
              exact h2

end Go.Proofs.YtkkoooagamadjaaGreatDoor

namespace Go.Proofs.YtkkoooagamadjaaGreatDoor
open Go.RowKit

/-- a zone in a box of its own, while it is built -/
structure ZQ (w3 : World) (B9 : Nat) (cl : List (Int × Int)) (gl : List Int) (W : World) : Prop where
  ex : ∃ u1 u2, Blk W B9 #[u1, u2] 28 ∧ ZoneAt W w3.heap.size u1 u2 cl gl
  grown : w3.grownBy W (some B9)

theorem grown_put9 {w3 W : World} {B9 j : Nat} (h : w3.grownBy W (some B9)) (u : Value) : w3.grownBy (W.setCell ⟨B9, j, none⟩ u) (some B9) :=
  ⟨h.os, h.tape, h.output, Nat.le_trans h.size (by simp [World.setCell]), fun q hq hne => (Below.heap_setCell _ _ _ _ (by intro e; exact hne (by rw [e]))).trans (h.block q hq hne)⟩

theorem ZQ.gap {w3 W : World} {B9 B4 : Nat} {cl : List (Int × Int)} {gl : List Int} {pcs : Array Value} {u1 u2 : Value} (bx : Blk W B9 #[u1, u2] 28) (zo : ZoneAt W w3.heap.size u1 u2 cl gl) (hg : w3.grownBy W (some B9)) (pt : Blk W B4 pcs 51) (hl : gl.length ≤ 1000) (g : Int) (h49 : B4 ≠ B9) (ty : TypeId) :
    ∃ x y w5, (Builtin.append_ #[26, 26] ty #[u2, .slice (some ⟨W.heap.size, 0, none⟩) 1 1]).run Tryz.prog (W.alloc (.cells #[.int .i64 g] 3)) = .ok (.slice x (gl.length + 1) y) w5
      ∧ Blk w5 B9 #[u1, u2] 28
      ∧ Blk (w5.setCell ⟨B9, 1, none⟩ (.slice x (gl.length + 1) y)) B9 #[u1, .slice x (gl.length + 1) y] 28
      ∧ ZoneAt (w5.setCell ⟨B9, 1, none⟩ (.slice x (gl.length + 1) y)) w3.heap.size u1 (.slice x (gl.length + 1) y) cl (gl ++ [g])
      ∧ w3.grownBy (w5.setCell ⟨B9, 1, none⟩ (.slice x (gl.length + 1) y)) (some B9)
      ∧ Blk (w5.setCell ⟨B9, 1, none⟩ (.slice x (gl.length + 1) y)) B4 pcs 51 := by
  have hba : Below W.heap.size W (W.alloc (.cells #[.int .i64 g] 3)) := (Below.refl _ W).alloc (Nat.le_refl _) _
  have z1 := zo.below hba
  have b1 := bx.alloc (.cells #[.int .i64 g] 3)
  have p1 := pt.alloc (.cells #[.int .i64 g] 3)
  have hrd : RdK (W.alloc (.cells #[.int .i64 g] 3)) 1 (.slice (some ⟨W.heap.size, 0, none⟩) 1 1) 1 (ints [g]) := by
    refine ⟨_, _, rfl, rfl, .inr ⟨W.heap.size, 0, rfl, by simp, fun t x hx => ?_⟩⟩
    rw [World.cell?_alloc_at _ _ _ _ (by simp), Nat.zero_add]
    simpa [ints] using hx
  have hbs : w3.heap.size ≤ (W.alloc (.cells #[.int .i64 g] 3)).heap.size := Nat.le_trans hg.size hba.size
  obtain ⟨v', w', hrun, ho, hgr⟩ := appK_run (P := Tryz.prog) _ 26 ty 3 (.int .i64 0) 1 8 w3.heap.size Tryz.underlying26 info_int' rfl (by decide) (by decide) u2 gl.length (ints gl) z1.2 _ 1 (ints [g]) hrd (ints_one _) (by omega) hbs
  obtain ⟨x, y, rfl⟩ := owns_len ho
  have r9 := b1.row_ne z1.2 (by decide)
  have r4 := p1.row_ne z1.2 (by decide)
  have b5 := b1.grown hgr r9
  have p5 := p1.grown hgr r4
  have oc5 := owns_beside z1.2 z1.1 (by decide) hgr
  refine ⟨x, y, w', hrun, b5, b5.store 1 _, ⟨?_, ?_⟩, ?_, p5.other h49 _⟩
  · exact ownsRow_setCell_other oc5 (a := ⟨B9, 1, none⟩) (b5.row_ne oc5 (by decide)) _
  · rw [show ints (gl ++ [g]) = ints gl ++ ints [g] by simp [ints], List.length_append]
    exact ownsRow_setCell_other ho (a := ⟨B9, 1, none⟩) (b5.row_ne ho (by decide)) _
  · exact grown_put9 (grown_then_below (grown_then_below hg (hba.mono hg.size)) (below_of_grown hgr (fun k e => (z1.2.lt k e).1) hbs)) _

theorem ZQ.cls {w3 W : World} {B9 : Nat} {cl : List (Int × Int)} {gl : List Int} {u1 u2 : Value} (bx : Blk W B9 #[u1, u2] 28) (zo : ZoneAt W w3.heap.size u1 u2 cl gl) (hg : w3.grownBy W (some B9)) (hl : cl.length ≤ 1000) (a c : Int) (ty : TypeId) :
    ∃ x y w5, (Builtin.append_ #[25, 25] ty #[u1, .slice (some ⟨W.heap.size, 0, none⟩) 1 1]).run Tryz.prog (W.alloc (.cells #[.int .i64 a, .int .i64 c] 47)) = .ok (.slice x (cl.length + 1) y) w5
      ∧ Blk w5 B9 #[u1, u2] 28
      ∧ ZQ w3 B9 (cl ++ [(a, c)]) gl (w5.setCell ⟨B9, 0, none⟩ (.slice x (cl.length + 1) y)) := by
  have hba : Below W.heap.size W (W.alloc (.cells #[.int .i64 a, .int .i64 c] 47)) := (Below.refl _ W).alloc (Nat.le_refl _) _
  have z1 := zo.below hba
  have b1 := bx.alloc (.cells #[.int .i64 a, .int .i64 c] 47)
  have hrd : RdK (W.alloc (.cells #[.int .i64 a, .int .i64 c] 47)) 2 (.slice (some ⟨W.heap.size, 0, none⟩) 1 1) 1 (cellsP [(a, c)]) := by
    refine ⟨_, _, rfl, rfl, .inr ⟨W.heap.size, 0, rfl, by simp, fun t x hx => ?_⟩⟩
    rw [World.cell?_alloc_at _ _ _ _ (by simp), Nat.zero_add, ← Array.getElem?_toList]
    simpa [cellsP] using hx
  have hbs : w3.heap.size ≤ (W.alloc (.cells #[.int .i64 a, .int .i64 c] 47)).heap.size := Nat.le_trans hg.size hba.size
  obtain ⟨v', w', hrun, ho, hgr⟩ := appK_run (P := Tryz.prog) _ 25 ty 47 (.agg #[.int .i64 0, .int .i64 0]) 2 16 w3.heap.size Tryz.underlying25 info_class rfl (by decide) (by decide) u1 cl.length (cellsP cl) z1.1 _ 1 (cellsP [(a, c)]) hrd (cellsP_one _) (by omega) hbs
  obtain ⟨x, y, rfl⟩ := owns_len ho
  have b5 := b1.grown hgr (b1.row_ne z1.1 (by decide))
  have og5 := owns_beside z1.1 z1.2 (by decide) hgr
  refine ⟨x, y, w', hrun, b5, ⟨_, u2, b5.store 0 _, ?_, ?_⟩, ?_⟩
  · rw [show cellsP (cl ++ [(a, c)]) = cellsP cl ++ cellsP [(a, c)] by simp [cellsP], List.length_append]
    exact ownsRow_setCell_other ho (a := ⟨B9, 0, none⟩) (b5.row_ne ho (by decide)) _
  · exact ownsRow_setCell_other og5 (a := ⟨B9, 0, none⟩) (b5.row_ne og5 (by decide)) _
  · exact grown_put9 (grown_then_below (grown_then_below hg (hba.mono hg.size)) (below_of_grown hgr (fun k e => (z1.1.lt k e).1) hbs)) _

theorem pnt_cls (vals consts : List Int) (r : Int) : (pntZ vals consts).map (·.2) = (ofZ vals consts r).1 := by
  unfold pntZ ofZ zoneZ
  rw [List.map_map]
  rfl
theorem pnt_gap (vals consts : List Int) (r : Int) : gapsZ (kap r) ((pntZ vals consts).map (·.1)) = (ofZ vals consts r).2 := by
  unfold pntZ ofZ zoneZ
  rw [List.map_map]
  have e : ((fun p : Pt => p.1) ∘ fun y => ((y, clsZ (pZ vals) vals.length (sortS consts) y) : Pt)) = id := rfl
  rw [e, List.map_id]
theorem pnt_len (vals consts : List Int) : (pntZ vals consts).length ≤ vals.length + consts.length := by
  unfold pntZ
  have := sortS_len (vals ++ consts)
  simpa using this
theorem pnt_in (vals consts : List Int) (p : Pt) (h : p ∈ pntZ vals consts) : p.1 ∈ vals ++ consts := by
  unfold pntZ at h
  obtain ⟨y, hy, rfl⟩ := List.mem_map.1 h
  exact ((sortS_ok _).2 y).1 hy
/-- gaps that are put already, and noughts -/
def gapK (gs : List Int) (k : Nat) : List Int := gs.take k ++ List.replicate (gs.length - k) 0
theorem gapK_len (gs : List Int) (k : Nat) (hk : k ≤ gs.length) : (gapK gs k).length = gs.length := by simp [gapK]; omega
theorem gapK_set (gs : List Int) (k : Nat) (g : Int) (h : gs[k]? = some g) : (gapK gs k).set k g = gapK gs (k + 1) := by
  obtain ⟨hk, rfl⟩ := List.getElem?_eq_some_iff.1 h
  unfold gapK
  rw [List.set_append_right _ _ (by rw [List.length_take]; omega), List.length_take, Nat.min_eq_left (by omega), Nat.sub_self, show gs.length - k = (gs.length - (k + 1)) + 1 by omega, List.replicate_succ, List.set_cons_zero, List.take_succ_eq_append_getElem hk, List.append_assoc]
  rfl
theorem gapK_all (gs : List Int) : gapK gs gs.length = gs := by simp [gapK]
theorem gapsZ_at (c : Int) : ∀ (l : List Int) (k : Nat) (a b : Int), l[k]? = some a → l[k + 1]? = some b → (gapsZ c l)[k]? = some (gapZ a b c)
  | [], _, _, _, h, _ => by simp at h
  | [x], k, a, b, _, h => by simp at h
  | x :: y :: l, 0, a, b, h1, h2 => by
    simp only [List.getElem?_cons_zero, Option.some.injEq, Nat.zero_add, List.getElem?_cons_succ] at h1 h2
    subst h1; subst h2; rfl
  | x :: y :: l, k + 1, a, b, h1, h2 => by
    simp only [List.getElem?_cons_succ] at h1 h2
    show (gapZ x y c :: gapsZ c (y :: l))[k + 1]? = _
    rw [List.getElem?_cons_succ]
    exact gapsZ_at c (y :: l) k a b h1 (by simpa using h2)

end Go.Proofs.YtkkoooagamadjaaGreatDoor
