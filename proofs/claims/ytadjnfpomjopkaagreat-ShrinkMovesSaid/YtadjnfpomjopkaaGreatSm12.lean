/- rights: Complete, at, of (printed by gen_ri.py). Models and states by their addresses; their boxes; boxes of elements (printed by gen_qk.py). A region that draws its order, walked in one order of one's own: what only reads is taken by the row, each call by itself. -/
import Derived.Test.YtadjnfpomjopkaaGreatSm11
import Derived.BigQuiet
import Derived.Deep.RegionHeld3
import Derived.Test.YtadjnfpomjopkaaGreatSm02
import Derived.Deep.RegionHeld

namespace Go.Proofs.YtadjnfpomjopkaaGreat
open Go.RowKit

theorem cmpF_of {M : Mdl} {s : Sta} {i : Nat} {x : Ml} (h : M.miles[i]? = some x) : cmpF M s i = (x.final && hasB s.dne i) := by unfold cmpF; rw [mlG_of h]
set_option maxRecDepth 100000 in
set_option maxHeartbeats 2000000 in
theorem compl_any {w : World} {m0 m1 m2 m3 m4 m5 m6 m7 m8 m9 : Value} {M : Mdl} {v0 v3 v4 : Value} {s : Sta} (hm : MdR w m0 m1 m2 m3 m4 m5 m6 m7 m8 m9 M) (hs : StR w v0 v3 v4 s) :
    Calls Tryz.prog 106 #[.agg #[m0, m1, m2, m3, m4, m5, m6, m7, m8, m9], .agg #[v0, .int .i64 s.opn, .int .i64 s.dne, v3, v4]] w fun e w' => e = .returned (.bool (complS M s)) ∧ Below w.heap.size w w' := by
  obtain ⟨a7, k7, e7⟩ := hm.miles.len
  have hx7 := hm.miles.max
  obtain ⟨n7, hn7⟩ : ∃ n, M.miles.length = n := ⟨_, rfl⟩
  rw [hn7] at e7 hx7
  subst e7
  have HN7 := Lib.hid hn7
  clear hn7
  obtain ⟨W1, hW1⟩ : ∃ W, w.alloc (.cells #[m0, m1, m2, m3, m4, m5, m6, .slice a7 n7 k7, m8, m9] 32) = W := ⟨_, rfl⟩
  have hb1 : Below w.heap.size w W1 := by rw [← hW1]; exact (Below.refl _ w).alloc (Nat.le_refl _) _
  have x1 : Blk W1 w.heap.size #[m0, m1, m2, m3, m4, m5, m6, .slice a7 n7 k7, m8, m9] 32 := by rw [← hW1]; exact Blk.new _ _ _
  obtain ⟨W2, hW2⟩ : ∃ W, W1.alloc (.cells #[v0, .int .i64 s.opn, .int .i64 s.dne, v3, v4] 44) = W := ⟨_, rfl⟩
  have hb2 : Below w.heap.size w W2 := by rw [← hW2]; exact hb1.alloc hb1.size _
  have x2 : Blk W2 W1.heap.size #[v0, .int .i64 s.opn, .int .i64 s.dne, v3, v4] 44 := by rw [← hW2]; exact Blk.new _ _ _
  have z1 : Blk W2 w.heap.size #[m0, m1, m2, m3, m4, m5, m6, .slice a7 n7 k7, m8, m9] 32 := (x1.keep (by rw [← hW2]; exact (Below.refl _ _).alloc (Nat.le_refl _) _))
  have z2 := x2
  have HSF : Hid (∀ W, Below W2.heap.size W2 W → W.cell? ⟨w.heap.size, 7, none⟩ = some (.slice a7 n7 k7) ∧ W.cell? ⟨W1.heap.size, 2, none⟩ = some (.int .i64 s.dne)) := fun W hW => ⟨(z1.keep hW).cell rfl, (z2.keep hW).cell rfl⟩
  have HB := Lib.hid hb2
  have HM := Lib.hid (hm.below hb2)
  have HS := Lib.hid (hs.below hb2)
  clear hm hs hb1 x1 z1 hb2 x2 z2
  obtain ⟨r, hr⟩ : ∃ r, complS M s = r := ⟨_, rfl⟩
  have HR := Lib.hid hr
  rw [hr]
  clear hr
  obtain ⟨f0, f1⟩ := HSF.out _ (Below.refl _ _)
  go_enter Tryz.func106, Tryz.ntmps106
  go_wp2
  go_loopw [10] (fun i wr => ∃ k : Nat, i = .int .i64 (k : Int) ∧ k ≤ n7 ∧ Hid (Below W2.heap.size W2 wr ∧ (List.range k).any (cmpF M s) = false)) (fun i _ => n7 - (intOf i).toNat)
  case atStart => exact ⟨0, rfl, Nat.zero_le _, Below.refl _ _, rfl⟩
  case round =>
    obtain ⟨k, rfl, hk, HALL⟩ := hrel
    obtain ⟨hbr, hany⟩ := HALL.out
    have HBR := Lib.hid hbr
    have HANY := Lib.hid hany
    rcases Nat.lt_or_ge k n7 with hlt | hge
    · obtain ⟨x, hx⟩ : ∃ x, M.miles[k]? = some x := ⟨_, List.getElem?_eq_getElem (by rw [HN7.out]; exact hlt)⟩
      obtain ⟨b, off, cap, ai, ki, hv, hbl, hin, a0, a1, a2, a3, a4⟩ := mileRow (HM.out.miles.below mileE_keep hbr) hx
      simp only [Value.slice.injEq] at hv
      obtain ⟨rfl, -, rfl⟩ := hv
      have hkz := ltI hlt
      have HCF := Lib.hid (cmpF_of (s := s) hx)
      obtain ⟨W3, hW3⟩ : ∃ W, wr.alloc (.cells #[.string x.name, .int .i64 x.stage, .int .i64 x.event, .slice ai x.ifs.length ki, .bool x.final] 54) = W := ⟨_, rfl⟩
      have hb3 : Below wr.heap.size wr W3 := by rw [← hW3]; exact (Below.refl _ wr).alloc (Nat.le_refl _) _
      have x3 : Blk W3 wr.heap.size #[.string x.name, .int .i64 x.stage, .int .i64 x.event, .slice ai x.ifs.length ki, .bool x.final] 54 := by rw [← hW3]; exact Blk.new _ _ _
      have g4 := x3.cell (i := 4) rfl
      have HB3 := Lib.hid (hbr.trans (hb3.mono hbr.size))
      obtain ⟨f0, f1⟩ := HSF.out _ HB3.out
      have HOW := Lib.hid hW3
      clear hbr hany HALL hx hin x3 hb3 hW3
      obtain ⟨fi, hfi⟩ : ∃ fi, x.final = fi := ⟨_, rfl⟩
      rw [hfi] at g4 a4 HOW HCF
      obtain ⟨t, ht⟩ : ∃ t, hasB s.dne (k : Int) = t := ⟨_, rfl⟩
      have HHAS : Hid (∀ W, Calls Tryz.prog 96 #[.int .i64 s.dne, .int .i64 (k : Int)] W fun e w' => e = .returned (.bool t) ∧ W = w') := fun W => by rw [← ht]; exact has_any _ _ W
      rw [ht] at HCF
      clear hfi ht
      cases fi
      · go_upto_region 4 with fail
        rw [HOW.out]
        go_wp2_with fail
        go_roundw
        case rel => exact ⟨k + 1, by go_num, hlt, HB3.out, anyR_miss HANY.out HCF.out⟩
        case measure => simp [intOf]; omega
      · cases t
        · go_upto_region 4 with fail
          rw [HOW.out]
          go_wp2_with (go_at_call 96; refine (HHAS.out _).mono ?_; rintro e w' ⟨rfl, rfl⟩)
          go_roundw
          case rel => exact ⟨k + 1, by go_num, hlt, HB3.out, anyR_miss HANY.out HCF.out⟩
          case measure => simp [intOf]; omega
        · have HRT : Hid (r = true) := by unfold Hid; rw [← HR.out]; unfold complS; rw [HN7.out]; exact anyR_hit hlt HCF.out
          go_upto_region 4 with fail
          rw [HOW.out]
          go_wp2_with (go_at_call 96; refine (HHAS.out _).mono ?_; rintro e w' ⟨rfl, rfl⟩)
          go_ret
          exact ⟨ret_bool HRT.out.symm, HB.out.trans (HB3.out.mono HB.out.size)⟩
    · have hkn : k = n7 := by omega
      subst hkn
      have hge' : ¬ (k : Int) < (k : Int) := by omega
      have HRT : Hid (r = false) := by unfold Hid; rw [← HR.out]; unfold complS; rw [HN7.out]; exact hany
      clear hbr hany HALL hge
      go_wp2
      go_ret
      exact ⟨ret_bool HRT.out.symm, HB.out.trans (HBR.out.mono HB.out.size)⟩
set_option maxHeartbeats 1000000 in
theorem ratz_any {w : World} {v : Value} {l : List Int} (h : RowE intE 1 w v l) (i : Int) :
    Calls Tryz.prog 108 #[v, .int .i64 i] w fun e w' => e = .returned (.int .i64 (atZ l i)) ∧ w' = w := by
  obtain ⟨ad, cap, e0⟩ := h.len
  subst e0
  rcases (show i < 0 ∨ (l.length : Int) ≤ i ∨ (0 ≤ i ∧ i < (l.length : Int)) by omega) with q | q | q
  · have HT : Hid (atZ l i = 0) := by unfold Hid atZ; rw [if_neg (by rw [inM_iff]; omega)]
    rw [HT.out]
    clear HT h
    go_enter Tryz.func108, Tryz.ntmps108
    go_wp2
    go_ret
    exact ⟨rfl, rfl⟩
  · have HT : Hid (atZ l i = 0) := by unfold Hid atZ; rw [if_neg (by rw [inM_iff]; omega)]
    rw [HT.out]
    have hn : ¬ i < 0 := by omega
    clear HT h
    go_enter Tryz.func108, Tryz.ntmps108
    go_wp2
    go_ret
    exact ⟨rfl, rfl⟩
  · obtain ⟨k, rfl⟩ : ∃ k : Nat, i = (k : Int) := ⟨i.toNat, by omega⟩
    obtain ⟨x, hx⟩ : ∃ x, l[k]? = some x := ⟨_, List.getElem?_eq_getElem (by omega)⟩
    have HT : Hid (atZ l (k : Int) = x) := by unfold Hid atZ; rw [if_pos (by rw [inM_iff]; exact q), Int.toNat_natCast, List.getD_eq_getElem?_getD, hx]; rfl
    rw [HT.out]
    obtain ⟨b, off, c, hv, hbl, hc⟩ := h.int hx
    simp only [Value.slice.injEq, true_and] at hv
    obtain ⟨rfl, rfl⟩ := hv
    have hq0 := q.1
    have hq1 := q.2
    have hn : ¬ (k : Int) < 0 := by omega
    have hn2 : ¬ (l.length : Int) ≤ (k : Int) := by omega
    clear HT h q
    go_enter Tryz.func108, Tryz.ntmps108
    go_wp2
    go_ret
    exact ⟨rfl, rfl⟩
set_option maxRecDepth 100000 in
set_option maxHeartbeats 2000000 in
theorem rof_R {w : World} {m0 m1 m2 m3 m4 m5 m6 m7 m8 m9 : Value} {M : Mdl} (hm : MdR w m0 m1 m2 m3 m4 m5 m6 m7 m8 m9 M) (role user : Int) :
    Calls Tryz.prog 107 #[.agg #[m0, m1, m2, m3, m4, m5, m6, m7, m8, m9], .int .i64 role, .int .i64 user] w fun e w' => e = .returned (.bool (ofR M role user)) ∧ Below w.heap.size w w' := by
  obtain ⟨a2, k2, e2⟩ := hm.users.len
  have hx2 := hm.users.max
  obtain ⟨n2, hn2⟩ : ∃ n, M.users.length = n := ⟨_, rfl⟩
  rw [hn2] at e2 hx2
  subst e2
  have HN2 := Lib.hid hn2
  clear hn2
  obtain ⟨a3, k3, e3⟩ := hm.roles.len
  have hx3 := hm.roles.max
  obtain ⟨n3, hn3⟩ : ∃ n, M.roles.length = n := ⟨_, rfl⟩
  rw [hn3] at e3 hx3
  subst e3
  have HN3 := Lib.hid hn3
  clear hn3
  obtain ⟨W1, hW1⟩ : ∃ W, w.alloc (.cells #[m0, m1, .slice a2 n2 k2, .slice a3 n3 k3, m4, m5, m6, m7, m8, m9] 32) = W := ⟨_, rfl⟩
  have hb1 : Below w.heap.size w W1 := by rw [← hW1]; exact (Below.refl _ w).alloc (Nat.le_refl _) _
  have x1 : Blk W1 w.heap.size #[m0, m1, .slice a2 n2 k2, .slice a3 n3 k3, m4, m5, m6, m7, m8, m9] 32 := by rw [← hW1]; exact Blk.new _ _ _
  have z1 := x1
  have HSF : Hid (∀ W, Below W1.heap.size W1 W → W.cell? ⟨w.heap.size, 2, none⟩ = some (.slice a2 n2 k2) ∧ W.cell? ⟨w.heap.size, 3, none⟩ = some (.slice a3 n3 k3)) := fun W hW => ⟨(z1.keep hW).cell rfl, (z1.keep hW).cell rfl⟩
  have HB := Lib.hid hb1
  have HM := Lib.hid (hm.below hb1)
  clear hm hb1 x1 z1
  obtain ⟨f0, f1⟩ := HSF.out _ (Below.refl _ _)
  rcases (show role < 0 ∨ (n3 : Int) ≤ role ∨ user < 0 ∨ (n2 : Int) ≤ user ∨ (0 ≤ role ∧ role < (n3 : Int) ∧ 0 ≤ user ∧ user < (n2 : Int)) by omega) with q | q | q | q | q
  · have HT : Hid (ofR M role user = false) := by
      unfold Hid ofR
      have : inM role M.roles.length = false := by rw [Bool.eq_false_iff]; intro h; have := inM_iff.1 h; rw [HN3.out] at this; omega
      rw [this]; simp
    rw [HT.out]
    clear HT
    have q1 : ¬ (0 : Int) ≤ role := by omega
    clear q
    go_enter Tryz.func107, Tryz.ntmps107
    go_wp2
    go_ret
    exact ⟨rfl, HB.out⟩
  · have HT : Hid (ofR M role user = false) := by
      unfold Hid ofR
      have : inM role M.roles.length = false := by rw [Bool.eq_false_iff]; intro h; have := inM_iff.1 h; rw [HN3.out] at this; omega
      rw [this]; simp
    rw [HT.out]
    clear HT
    have q1 : ¬ role < (n3 : Int) := by omega
    clear q
    by_cases q0 : (0 : Int) ≤ role
    all_goals
      go_enter Tryz.func107, Tryz.ntmps107
      go_wp2
      go_ret
      exact ⟨rfl, HB.out⟩
  · have HT : Hid (ofR M role user = false) := by
      unfold Hid ofR
      have : inM user M.users.length = false := by rw [Bool.eq_false_iff]; intro h; have := inM_iff.1 h; rw [HN2.out] at this; omega
      rw [this]; simp
    rw [HT.out]
    clear HT
    have q1 : ¬ (0 : Int) ≤ user := by omega
    clear q
    by_cases q0 : (0 : Int) ≤ role <;> by_cases q2 : role < (n3 : Int)
    all_goals
      go_enter Tryz.func107, Tryz.ntmps107
      go_wp2
      go_ret
      exact ⟨rfl, HB.out⟩
  · have HT : Hid (ofR M role user = false) := by
      unfold Hid ofR
      have : inM user M.users.length = false := by rw [Bool.eq_false_iff]; intro h; have := inM_iff.1 h; rw [HN2.out] at this; omega
      rw [this]; simp
    rw [HT.out]
    clear HT
    have q1 : decide (user < (n2 : Int)) = false := decide_eq_false (by omega)
    clear q
    by_cases q0 : (0 : Int) ≤ role <;> by_cases q2 : role < (n3 : Int) <;> by_cases q3 : (0 : Int) ≤ user
    all_goals
      go_enter Tryz.func107, Tryz.ntmps107
      go_wp2
      go_ret
      exact ⟨rfl, HB.out⟩
  · obtain ⟨q0, q1, q2, q3⟩ := q
    obtain ⟨j, rfl⟩ : ∃ j : Nat, role = (j : Int) := ⟨role.toNat, by omega⟩
    obtain ⟨x, hx⟩ : ∃ x, M.roles[j]? = some x := ⟨_, List.getElem?_eq_getElem (by have := HN3.out; omega)⟩
    have HT : Hid (ofR M (j : Int) user = hasB x.2 user) := by
      unfold Hid ofR
      rw [inM_iff.2 (by rw [HN3.out]; exact ⟨q0, q1⟩), inM_iff.2 (by rw [HN2.out]; exact ⟨q2, q3⟩), Int.toNat_natCast, rolU_of hx]; rfl
    rw [HT.out]
    obtain ⟨b, off, cap, hv, hbl, a0, a1⟩ := roleRow HM.out.roles hx
    simp only [Value.slice.injEq] at hv
    obtain ⟨rfl, -, rfl⟩ := hv
    clear HT hx
    go_enter Tryz.func107, Tryz.ntmps107
    go_wp2_with (go_at_call 96; refine (has_any _ _ _).mono ?_; rintro e w' ⟨rfl, rfl⟩)
    go_ret
    exact ⟨rfl, HB.out⟩
end Go.Proofs.YtadjnfpomjopkaaGreat

namespace Go.Proofs.YtadjnfpomjopkaaGreat
open Go.RowKit

/-- what comes back, and nothing that was there has turned -/
def Ret (w : World) (v : Value) : Ending → World → Prop := fun e w' => e = .returned v ∧ Below w.heap.size w w'

structure Mem where
  a0 : Option Addr
  k0 : Nat
  a1 : Option Addr
  k1 : Nat
  a2 : Option Addr
  k2 : Nat
  a3 : Option Addr
  k3 : Nat
  a4 : Option Addr
  k4 : Nat
  a5 : Option Addr
  k5 : Nat
  a6 : Option Addr
  k6 : Nat
  a7 : Option Addr
  k7 : Nat
  a8 : Option Addr
  k8 : Nat
  a9 : Option Addr
  k9 : Nat

structure Stm where
  a0 : Option Addr
  k0 : Nat
  a3 : Option Addr
  k3 : Nat
  a4 : Option Addr
  k4 : Nat

/-- a model, a state as values -/
def mdC (q : Mem) (M : Mdl) : Array Value := #[.slice q.a0 M.attrs.length q.k0, .slice q.a1 M.inits.length q.k1, .slice q.a2 M.users.length q.k2, .slice q.a3 M.roles.length q.k3, .slice q.a4 M.stages.length q.k4, .slice q.a5 M.events.length q.k5, .slice q.a6 M.guards.length q.k6, .slice q.a7 M.miles.length q.k7, .slice q.a8 M.sods.length q.k8, .slice q.a9 M.order.length q.k9]
def stC (r : Stm) (s : Sta) : Array Value := #[.slice r.a0 s.vals.length r.k0, .int .i64 s.opn, .int .i64 s.dne, .slice r.a3 s.did.length r.k3, .slice r.a4 s.cnt.length r.k4]

def MdQ (w : World) (q : Mem) (M : Mdl) : Prop := MdR w (.slice q.a0 M.attrs.length q.k0) (.slice q.a1 M.inits.length q.k1) (.slice q.a2 M.users.length q.k2) (.slice q.a3 M.roles.length q.k3) (.slice q.a4 M.stages.length q.k4) (.slice q.a5 M.events.length q.k5) (.slice q.a6 M.guards.length q.k6) (.slice q.a7 M.miles.length q.k7) (.slice q.a8 M.sods.length q.k8) (.slice q.a9 M.order.length q.k9) M

def StQ (w : World) (r : Stm) (s : Sta) : Prop := StR w (.slice r.a0 s.vals.length r.k0) (.slice r.a3 s.did.length r.k3) (.slice r.a4 s.cnt.length r.k4) s

theorem MdQ.below {w w' : World} {q : Mem} {M : Mdl} (h : MdQ w q M) (hb : Below w.heap.size w w') : MdQ w' q M := MdR.below h hb
theorem StQ.below {w w' : World} {r : Stm} {s : Sta} (h : StQ w r s) (hb : Below w.heap.size w w') : StQ w' r s := StR.below h hb

theorem MdQ.of {w : World} {m0 m1 m2 m3 m4 m5 m6 m7 m8 m9 : Value} {M : Mdl} (h : MdR w m0 m1 m2 m3 m4 m5 m6 m7 m8 m9 M) : ∃ q, #[m0, m1, m2, m3, m4, m5, m6, m7, m8, m9] = mdC q M ∧ MdQ w q M := by
  obtain ⟨a0, k0, e0⟩ := h.attrs.len
  obtain ⟨a1, k1, e1⟩ := h.inits.len
  obtain ⟨a2, k2, e2⟩ := h.users.len
  obtain ⟨a3, k3, e3⟩ := h.roles.len
  obtain ⟨a4, k4, e4⟩ := h.stages.len
  obtain ⟨a5, k5, e5⟩ := h.events.len
  obtain ⟨a6, k6, e6⟩ := h.guards.len
  obtain ⟨a7, k7, e7⟩ := h.miles.len
  obtain ⟨a8, k8, e8⟩ := h.sods.len
  obtain ⟨a9, k9, e9⟩ := h.order.len
  subst e0 e1 e2 e3 e4 e5 e6 e7 e8 e9
  exact ⟨⟨a0, k0, a1, k1, a2, k2, a3, k3, a4, k4, a5, k5, a6, k6, a7, k7, a8, k8, a9, k9⟩, rfl, h⟩

theorem StQ.of {w : World} {v0 v3 v4 : Value} {s : Sta} (h : StR w v0 v3 v4 s) : ∃ r, #[v0, .int .i64 s.opn, .int .i64 s.dne, v3, v4] = stC r s ∧ StQ w r s := by
  obtain ⟨a0, k0, e0⟩ := h.vals.len
  obtain ⟨a3, k3, e3⟩ := h.did.len
  obtain ⟨a4, k4, e4⟩ := h.cnt.len
  subst e0 e3 e4
  exact ⟨⟨a0, k0, a3, k3, a4, k4⟩, rfl, h⟩

def MdB (V : World) (b : Nat) (q : Mem) (M : Mdl) : Prop := V.cell? ⟨b, 0, none⟩ = some (.slice q.a0 M.attrs.length q.k0) ∧ V.cell? ⟨b, 1, none⟩ = some (.slice q.a1 M.inits.length q.k1) ∧ V.cell? ⟨b, 2, none⟩ = some (.slice q.a2 M.users.length q.k2) ∧ V.cell? ⟨b, 3, none⟩ = some (.slice q.a3 M.roles.length q.k3) ∧ V.cell? ⟨b, 4, none⟩ = some (.slice q.a4 M.stages.length q.k4) ∧ V.cell? ⟨b, 5, none⟩ = some (.slice q.a5 M.events.length q.k5) ∧ V.cell? ⟨b, 6, none⟩ = some (.slice q.a6 M.guards.length q.k6) ∧ V.cell? ⟨b, 7, none⟩ = some (.slice q.a7 M.miles.length q.k7) ∧ V.cell? ⟨b, 8, none⟩ = some (.slice q.a8 M.sods.length q.k8) ∧ V.cell? ⟨b, 9, none⟩ = some (.slice q.a9 M.order.length q.k9)

def StB (V : World) (b : Nat) (r : Stm) (s : Sta) : Prop := V.cell? ⟨b, 0, none⟩ = some (.slice r.a0 s.vals.length r.k0) ∧ V.cell? ⟨b, 1, none⟩ = some (.int .i64 s.opn) ∧ V.cell? ⟨b, 2, none⟩ = some (.int .i64 s.dne) ∧ V.cell? ⟨b, 3, none⟩ = some (.slice r.a3 s.did.length r.k3) ∧ V.cell? ⟨b, 4, none⟩ = some (.slice r.a4 s.cnt.length r.k4)

theorem MdB.of {V : World} {b : Nat} {q : Mem} {M : Mdl} (h : Blk V b (mdC q M) 32) : MdB V b q M := ⟨h.cell rfl, h.cell rfl, h.cell rfl, h.cell rfl, h.cell rfl, h.cell rfl, h.cell rfl, h.cell rfl, h.cell rfl, h.cell rfl⟩

theorem StB.of {V : World} {b : Nat} {r : Stm} {s : Sta} (h : Blk V b (stC r s) 44) : StB V b r s := ⟨h.cell rfl, h.cell rfl, h.cell rfl, h.cell rfl, h.cell rfl⟩

/-- a block that is new, and what lies behind -/
theorem box1 (w : World) (cs : Array Value) (t : TypeId) : ∃ W, w.alloc (.cells cs t) = W ∧ Below w.heap.size w W ∧ Blk W w.heap.size cs t := ⟨_, rfl, (Below.refl _ w).alloc (Nat.le_refl _) _, Blk.new _ _ _⟩
theorem boxM {w : World} {q : Mem} {M : Mdl} (hm : MdQ w q M) : ∃ W, w.alloc (.cells (mdC q M) 32) = W ∧ Hid (Below w.heap.size w W) ∧ Hid (MdQ W q M) ∧ Hid (∀ V, Below W.heap.size W V → MdB V w.heap.size q M) := by
  obtain ⟨W, h, hb, hx⟩ := box1 w (mdC q M) 32
  exact ⟨W, h, hb, hm.below hb, fun V hV => .of (hx.keep hV)⟩
theorem boxS {w : World} {r : Stm} {s : Sta} (hs : StQ w r s) : ∃ W, w.alloc (.cells (stC r s) 44) = W ∧ Hid (Below w.heap.size w W) ∧ Hid (StQ W r s) ∧ Hid (∀ V, Below W.heap.size W V → StB V w.heap.size r s) := by
  obtain ⟨W, h, hb, hx⟩ := box1 w (stC r s) 44
  exact ⟨W, h, hb, hs.below hb, fun V hV => .of (hx.keep hV)⟩
theorem boxMS {w : World} {q : Mem} {M : Mdl} {r : Stm} {s : Sta} (hm : MdQ w q M) (hs : StQ w r s) : ∃ W1 W, w.alloc (.cells (mdC q M) 32) = W1 ∧ W1.alloc (.cells (stC r s) 44) = W ∧ Hid (Below w.heap.size w W) ∧ Hid (MdQ W q M) ∧ Hid (StQ W r s) ∧ Hid (∀ V, Below W.heap.size W V → MdB V w.heap.size q M ∧ StB V W1.heap.size r s) := by
  obtain ⟨W1, h, hb, hx⟩ := box1 w (mdC q M) 32
  obtain ⟨W, h2, hb2, hx2⟩ := box1 W1 (stC r s) 44
  have hB := hb.trans (hb2.mono hb.size)
  exact ⟨W1, W, h, h2, hB, hm.below hB, hs.below hB, fun V hV => ⟨.of ((hx.keep hb2).keep hV), .of (hx2.keep hV)⟩⟩
theorem RowE.get? {α : Type} {E : ElE α} {k : Nat} {w : World} {v : Value} {T : List α} (_h : RowE E k w v T) {i : Nat} (hi : i < T.length) : ∃ a, T[i]? = some a := ⟨_, List.getElem?_eq_getElem hi⟩

/-- an element, and its box -/
theorem roleBox {w : World} {ad : Option Addr} {kk : Nat} {T : List (ByteArray × Int)} (h : RowE roleE 2 w (.slice ad T.length kk) T) {i : Nat} (hi : i < T.length) :
    ∃ x b off, T[i]? = some x ∧ ad = some ⟨b, off, none⟩ ∧ (w.cell? ⟨b, off + i * 2, none⟩ = some (.string x.1) ∧ w.cell? ⟨b, off + i * 2 + 1, none⟩ = some (.int .i64 x.2)) ∧ ∃ W, w.alloc (.cells #[.string x.1, .int .i64 x.2] 115) = W ∧ Below w.heap.size w W ∧ Blk W w.heap.size #[.string x.1, .int .i64 x.2] 115 := by
  obtain ⟨x, hx⟩ := h.get? hi
  obtain ⟨b, off, cap, hv, hbl, c0, c1⟩ := roleRow h hx
  simp only [Value.slice.injEq] at hv
  obtain ⟨W, h, hb, hB⟩ := box1 w #[.string x.1, .int .i64 x.2] 115
  exact ⟨x, b, off, hx, hv.1, ⟨c0, c1⟩, W, h, hb, hB⟩

/-- an element, and its box -/
theorem stageBox {w : World} {ad : Option Addr} {kk : Nat} {T : List (ByteArray × Int)} (h : RowE stageE 2 w (.slice ad T.length kk) T) {i : Nat} (hi : i < T.length) :
    ∃ x b off, T[i]? = some x ∧ ad = some ⟨b, off, none⟩ ∧ (w.cell? ⟨b, off + i * 2, none⟩ = some (.string x.1) ∧ w.cell? ⟨b, off + i * 2 + 1, none⟩ = some (.int .i64 x.2)) ∧ ∃ W, w.alloc (.cells #[.string x.1, .int .i64 x.2] 122) = W ∧ Below w.heap.size w W ∧ Blk W w.heap.size #[.string x.1, .int .i64 x.2] 122 := by
  obtain ⟨x, hx⟩ := h.get? hi
  obtain ⟨b, off, cap, hv, hbl, c0, c1⟩ := stageRow h hx
  simp only [Value.slice.injEq] at hv
  obtain ⟨W, h, hb, hB⟩ := box1 w #[.string x.1, .int .i64 x.2] 122
  exact ⟨x, b, off, hx, hv.1, ⟨c0, c1⟩, W, h, hb, hB⟩

/-- an element, and its box -/
theorem sodBox {w : World} {ad : Option Addr} {kk : Nat} {T : List (Int × Int)} (h : RowE sodE 2 w (.slice ad T.length kk) T) {i : Nat} (hi : i < T.length) :
    ∃ x b off, T[i]? = some x ∧ ad = some ⟨b, off, none⟩ ∧ (w.cell? ⟨b, off + i * 2, none⟩ = some (.int .i64 x.1) ∧ w.cell? ⟨b, off + i * 2 + 1, none⟩ = some (.int .i64 x.2)) ∧ ∃ W, w.alloc (.cells #[.int .i64 x.1, .int .i64 x.2] 113) = W ∧ Below w.heap.size w W ∧ Blk W w.heap.size #[.int .i64 x.1, .int .i64 x.2] 113 := by
  obtain ⟨x, hx⟩ := h.get? hi
  obtain ⟨b, off, cap, hv, hbl, c0, c1⟩ := sodRow h hx
  simp only [Value.slice.injEq] at hv
  obtain ⟨W, h, hb, hB⟩ := box1 w #[.int .i64 x.1, .int .i64 x.2] 113
  exact ⟨x, b, off, hx, hv.1, ⟨c0, c1⟩, W, h, hb, hB⟩

/-- an element, and its box -/
theorem sentBox {w : World} {ad : Option Addr} {kk : Nat} {T : List (Bool × Int)} (h : RowE sentryE 2 w (.slice ad T.length kk) T) {i : Nat} (hi : i < T.length) :
    ∃ x b off, T[i]? = some x ∧ ad = some ⟨b, off, none⟩ ∧ (w.cell? ⟨b, off + i * 2, none⟩ = some (.bool x.1) ∧ w.cell? ⟨b, off + i * 2 + 1, none⟩ = some (.int .i64 x.2)) ∧ ∃ W, w.alloc (.cells #[.bool x.1, .int .i64 x.2] 118) = W ∧ Below w.heap.size w W ∧ Blk W w.heap.size #[.bool x.1, .int .i64 x.2] 118 := by
  obtain ⟨x, hx⟩ := h.get? hi
  obtain ⟨b, off, cap, hv, hbl, c0, c1⟩ := sentRow h hx
  simp only [Value.slice.injEq] at hv
  obtain ⟨W, h, hb, hB⟩ := box1 w #[.bool x.1, .int .i64 x.2] 118
  exact ⟨x, b, off, hx, hv.1, ⟨c0, c1⟩, W, h, hb, hB⟩

/-- an element, and its box -/
theorem eventBox {w : World} {ad : Option Addr} {kk : Nat} {T : List Ev} (h : RowE eventE 5 w (.slice ad T.length kk) T) {i : Nat} (hi : i < T.length) :
    ∃ x b off ai ki, T[i]? = some x ∧ ad = some ⟨b, off, none⟩ ∧ RowE intE 1 w (.slice ai x.sets.length ki) x.sets ∧ (w.cell? ⟨b, off + i * 5, none⟩ = some (.string x.name) ∧ w.cell? ⟨b, off + i * 5 + 1, none⟩ = some (.int .i64 x.role) ∧ w.cell? ⟨b, off + i * 5 + 2, none⟩ = some (.int .i64 x.stage) ∧ w.cell? ⟨b, off + i * 5 + 3, none⟩ = some (.slice ai x.sets.length ki) ∧ w.cell? ⟨b, off + i * 5 + 4, none⟩ = some (.int .i64 x.times)) ∧ ∃ W, w.alloc (.cells #[.string x.name, .int .i64 x.role, .int .i64 x.stage, .slice ai x.sets.length ki, .int .i64 x.times] 56) = W ∧ Below w.heap.size w W ∧ Blk W w.heap.size #[.string x.name, .int .i64 x.role, .int .i64 x.stage, .slice ai x.sets.length ki, .int .i64 x.times] 56 := by
  obtain ⟨x, hx⟩ := h.get? hi
  obtain ⟨b, off, cap, ai, ki, hv, hbl, hin, c0, c1, c2, c3, c4⟩ := eventRow h hx
  simp only [Value.slice.injEq] at hv
  obtain ⟨W, h, hb, hB⟩ := box1 w #[.string x.name, .int .i64 x.role, .int .i64 x.stage, .slice ai x.sets.length ki, .int .i64 x.times] 56
  exact ⟨x, b, off, ai, ki, hx, hv.1, hin, ⟨c0, c1, c2, c3, c4⟩, W, h, hb, hB⟩

/-- an element, and its box -/
theorem guardBox {w : World} {ad : Option Addr} {kk : Nat} {T : List Gd} (h : RowE guardE 3 w (.slice ad T.length kk) T) {i : Nat} (hi : i < T.length) :
    ∃ x b off ai ki, T[i]? = some x ∧ ad = some ⟨b, off, none⟩ ∧ RowE instE 7 w (.slice ai x.ifs.length ki) x.ifs ∧ (w.cell? ⟨b, off + i * 3, none⟩ = some (.int .i64 x.stage) ∧ w.cell? ⟨b, off + i * 3 + 1, none⟩ = some (.int .i64 x.event) ∧ w.cell? ⟨b, off + i * 3 + 2, none⟩ = some (.slice ai x.ifs.length ki)) ∧ ∃ W, w.alloc (.cells #[.int .i64 x.stage, .int .i64 x.event, .slice ai x.ifs.length ki] 52) = W ∧ Below w.heap.size w W ∧ Blk W w.heap.size #[.int .i64 x.stage, .int .i64 x.event, .slice ai x.ifs.length ki] 52 := by
  obtain ⟨x, hx⟩ := h.get? hi
  obtain ⟨b, off, cap, ai, ki, hv, hbl, hin, c0, c1, c2⟩ := guardRow h hx
  simp only [Value.slice.injEq] at hv
  obtain ⟨W, h, hb, hB⟩ := box1 w #[.int .i64 x.stage, .int .i64 x.event, .slice ai x.ifs.length ki] 52
  exact ⟨x, b, off, ai, ki, hx, hv.1, hin, ⟨c0, c1, c2⟩, W, h, hb, hB⟩

/-- an element, and its box -/
theorem mileBox {w : World} {ad : Option Addr} {kk : Nat} {T : List Ml} (h : RowE mileE 5 w (.slice ad T.length kk) T) {i : Nat} (hi : i < T.length) :
    ∃ x b off ai ki, T[i]? = some x ∧ ad = some ⟨b, off, none⟩ ∧ RowE instE 7 w (.slice ai x.ifs.length ki) x.ifs ∧ (w.cell? ⟨b, off + i * 5, none⟩ = some (.string x.name) ∧ w.cell? ⟨b, off + i * 5 + 1, none⟩ = some (.int .i64 x.stage) ∧ w.cell? ⟨b, off + i * 5 + 2, none⟩ = some (.int .i64 x.event) ∧ w.cell? ⟨b, off + i * 5 + 3, none⟩ = some (.slice ai x.ifs.length ki) ∧ w.cell? ⟨b, off + i * 5 + 4, none⟩ = some (.bool x.final)) ∧ ∃ W, w.alloc (.cells #[.string x.name, .int .i64 x.stage, .int .i64 x.event, .slice ai x.ifs.length ki, .bool x.final] 54) = W ∧ Below w.heap.size w W ∧ Blk W w.heap.size #[.string x.name, .int .i64 x.stage, .int .i64 x.event, .slice ai x.ifs.length ki, .bool x.final] 54 := by
  obtain ⟨x, hx⟩ := h.get? hi
  obtain ⟨b, off, cap, ai, ki, hv, hbl, hin, c0, c1, c2, c3, c4⟩ := mileRow h hx
  simp only [Value.slice.injEq] at hv
  obtain ⟨W, h, hb, hB⟩ := box1 w #[.string x.name, .int .i64 x.stage, .int .i64 x.event, .slice ai x.ifs.length ki, .bool x.final] 54
  exact ⟨x, b, off, ai, ki, hx, hv.1, hin, ⟨c0, c1, c2, c3, c4⟩, W, h, hb, hB⟩

/-- an element, and its box -/
theorem moveBox {w : World} {ad : Option Addr} {kk : Nat} {T : List Mv} (h : RowE moveE 3 w (.slice ad T.length kk) T) {i : Nat} (hi : i < T.length) :
    ∃ x b off ai ki, T[i]? = some x ∧ ad = some ⟨b, off, none⟩ ∧ RowE intE 1 w (.slice ai x.vals.length ki) x.vals ∧ (w.cell? ⟨b, off + i * 3, none⟩ = some (.int .i64 x.event) ∧ w.cell? ⟨b, off + i * 3 + 1, none⟩ = some (.int .i64 x.user) ∧ w.cell? ⟨b, off + i * 3 + 2, none⟩ = some (.slice ai x.vals.length ki)) ∧ ∃ W, w.alloc (.cells #[.int .i64 x.event, .int .i64 x.user, .slice ai x.vals.length ki] 58) = W ∧ Below w.heap.size w W ∧ Blk W w.heap.size #[.int .i64 x.event, .int .i64 x.user, .slice ai x.vals.length ki] 58 := by
  obtain ⟨x, hx⟩ := h.get? hi
  obtain ⟨b, off, cap, ai, ki, hv, hbl, hin, c0, c1, c2⟩ := moveRow h hx
  simp only [Value.slice.injEq] at hv
  obtain ⟨W, h, hb, hB⟩ := box1 w #[.int .i64 x.event, .int .i64 x.user, .slice ai x.vals.length ki] 58
  exact ⟨x, b, off, ai, ki, hx, hv.1, hin, ⟨c0, c1, c2⟩, W, h, hb, hB⟩

theorem inM_no {n : Int} {m : Nat} (h : ¬ (0 ≤ n ∧ n < (m : Int))) : inM n m = false := by rw [Bool.eq_false_iff]; exact fun e => h (inM_iff.1 e)
/-- a region that draws: the next operation is taken, whatever it is, as long as it only reads -/
theorem takeH {P : Program} {ops : Array Oper} {Q : Exit → Act → World → Prop} {md : Region.Mode} {S : World → Prop} {i : Nat} {rs : List Nat} {oi : Oper} {v : Value} {fuel : Nat} {listed : Array Bool} {a : Act} {w : World} (hr : Region.ready md ops listed = i :: rs) (hi : ops[i]? = some oi)
    (hs : Region.noSelect ops = true) (hf : Region.free md ops listed i = true)
    (hQ : ∀ c a w, Q (.panic c) (a.put oi.dst v) w → Q (.panic c) a w) (hy : YieldsIf P ops S oi v a) (hS : S w)
    (h : wpAnyH P md ops Q S fuel (listed.setIfInBounds i true) (a.put oi.dst v) w) : wpAnyH P md ops Q S (fuel + 1) listed a w :=
  wpAnyH_take hi hs hf (by rw [hr]; simp) hQ hy hS h

end Go.Proofs.YtadjnfpomjopkaaGreat

namespace Go.Proofs.YtadjnfpomjopkaaGreat
open Go.RowKit
section
variable {P : Program} {ops : Array Oper} {Q : Exit → Act → World → Prop} {S : World → Prop} {md : Region.Mode}

/-- these may be taken now, one behind the other -/
def seqOK (md : Region.Mode) (ops : Array Oper) : List Nat → Array Bool → Bool
  | [], _ => true
  | i :: r, listed => Region.free md ops listed i && (Region.ready md ops listed).contains i && seqOK md ops r (listed.setIfInBounds i true)
def seqL : List Nat → Array Bool → Array Bool
  | [], listed => listed
  | i :: r, listed => seqL r (listed.setIfInBounds i true)
/-- each yields its value in every world that meets S -/
def TakeSeq (P : Program) (ops : Array Oper) (S : World → Prop) (K : Act → Prop) : List Nat → Act → Prop
  | [], a => K a
  | i :: r, a => ∃ oi v, ops[i]? = some oi ∧ YieldsIf P ops S oi v a ∧ TakeSeq P ops S K r (a.put oi.dst v)
theorem TakeSeq.nil {K : Act → Prop} {a : Act} (h : K a) : TakeSeq P ops S K [] a := h
theorem TakeSeq.cons {K : Act → Prop} {i : Nat} {r : List Nat} {a : Act} {oi : Oper} {v : Value} (hi : ops[i]? = some oi) (hw : Region.wanted oi (yielded ops a.tmps) = true) (hy : ∀ w, S w → (execOp a.eval oi).run P w = .ok (.value v) w) (h : TakeSeq P ops S K r (a.put oi.dst v)) : TakeSeq P ops S K (i :: r) a :=
  ⟨oi, v, hi, .inl ⟨hw, hy⟩, h⟩
theorem TakeSeq.skip {K : Act → Prop} {i : Nat} {r : List Nat} {a : Act} {oi : Oper} (hi : ops[i]? = some oi) (hw : Region.wanted oi (yielded ops a.tmps) = false) (h : TakeSeq P ops S K r (a.put oi.dst undef)) : TakeSeq P ops S K (i :: r) a :=
  ⟨oi, undef, hi, .inr ⟨hw, rfl⟩, h⟩
/-- a panic's way out does not hang on the temporaries -/
def PutFree (Q : Exit → Act → World → Prop) : Prop := ∀ c a d v w, Q (.panic c) (a.put d v) w → Q (.panic c) a w
theorem takesH (is : List Nat) (hs : Region.noSelect ops = true) (hQ : PutFree Q) : ∀ {fuel : Nat} {listed : Array Bool} {a : Act} {w : World}, seqOK md ops is listed = true → Nat.ble is.length fuel = true → S w →
    TakeSeq P ops S (fun a' => wpAnyH P md ops Q S (fuel - is.length) (seqL is listed) a' w) is a → wpAnyH P md ops Q S fuel listed a w := by
  induction is with
  | nil => exact fun _ _ _ h => h
  | cons i r ih =>
    intro fuel listed a w hc hf hS h
    cases fuel with
    | zero => cases hf
    | succ fuel =>
      obtain ⟨oi, v, hi, hy, h⟩ := h
      simp only [seqOK, Bool.and_eq_true] at hc
      refine wpAnyH_take hi hs hc.1.1 hc.1.2 (fun c a w => hQ c a _ _ w) hy hS (ih hc.2 hf hS ?_)
      have e : fuel + 1 - (i :: r).length = fuel - r.length := by simp
      rw [e] at h
      exact h
/-- a call that is the only one that may come up -/
theorem callH (i : Nat) {fuel : Nat} {listed : Array Bool} {a : Act} {w : World} {o : Oper} (hr : (Region.ready md ops listed == [i]) = true) (hf : Nat.ble 1 fuel = true) (ho : ops[i]? = some o) (hw : Region.wanted o (yielded ops a.tmps) = true)
    (h : ∀ K' : Act → World → Prop, Shut (∀ a w, S w → (S w → wpAnyH P md ops Q S (fuel - 1) (listed.setIfInBounds i true) a w) → K' a w) → Oper.wp P o a w K' Q) : wpAnyH P md ops Q S fuel listed a w := by
  cases fuel with
  | zero => cases hf
  | succ fuel =>
    refine wpAnyH_ready (rs := [i]) (by simpa using hr) (by simp) (AllReadyH.cons ho (fun K' hK => ?_) AllReadyH.nil)
    rw [if_pos hw]
    exact h K' hK
theorem startH {id : Nat} {a : Act} {w : World} (hm : P.follows .mixedOrders = true) (hS : S w.drew)
    (h : S w.drew → wpAnyH P .any ops Q S ops.size (Array.replicate ops.size false) a w.drew) : (Code.region id ops true).wp P Q a w := wp_region_held_drew hm hS h
theorem doneH {fuel : Nat} {listed : Array Bool} {a : Act} {w : World} (hr : (Region.ready md ops listed).isEmpty = true) (h : Q .normal a w) : wpAnyH P md ops Q S fuel listed a w := wpAnyH_done (by simpa using hr) h fuel
end
theorem PutFree.body {P : Program} {f : Func} {R : Ending → World → Prop} : PutFree (bodyPost P f R) := fun c a d v w h => by cases d <;> exact h
theorem PutFree.then {K : Act → World → Prop} {Q : Exit → Act → World → Prop} (h : PutFree Q) : PutFree (Exit.then K Q) := fun c a d v w => h c a d v w
theorem PutFree.inBlock {n : Nat} {Q : Exit → Act → World → Prop} (h : PutFree Q) : PutFree (Exit.inBlock n Q) := fun c a d v w => h c a d v w
end Go.Proofs.YtadjnfpomjopkaaGreat
