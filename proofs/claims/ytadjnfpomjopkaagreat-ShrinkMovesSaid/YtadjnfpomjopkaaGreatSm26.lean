/- The reference: Stuck (printed by gen_r6.py). Contracts of warderref04's Arity, Begin, Check and Kids, for whatever list. Contract of warderref04's Kids. -/
import Derived.Test.YtadjnfpomjopkaaGreatSm25
import Derived.Test.YtadjnfpomjopkaaGreatSm02
import Derived.Test.YtadjnfpomjopkaaGreatSm09
import Derived.Test.YtadjnfpomjopkaaGreatSm05

namespace Go.Proofs.YtadjnfpomjopkaaGreat
open Go.RowKit

theorem any_step {f : Nat → Bool} {k : Nat} {a b c : Bool} (h : (List.range k).any f = a) (hf : f k = b) (hc : (a || b) = c) : (List.range (k + 1)).any f = c := by rw [anyR_succ, h, hf, hc]
set_option maxRecDepth 100000 in
set_option maxHeartbeats 4000000 in
theorem rstuckQ {w : World} {q : Mem} {M : Mdl} {r : Stm} {s : Sta} (hm : MdQ w q M) (hs : StQ w r s) (hk : SOK s) (hro : ∀ x ∈ M.roles, N64 x.2) (hu : M.users.length ≤ 100000) : Calls Tryz.prog 36 #[.agg (mdC q M), .agg (stC r s)] w (Ret w (.bool (stuckS M s))) := by
  have hme := hm.events.max
  have hmg := hm.stages.max
  obtain ⟨W1, W0, h1, h2, HB, HM, HS, HF⟩ := boxMS hm hs
  have HOK := Lib.hid hk
  have HB0 : Hid (Below W0.heap.size W0 W0) := Below.refl _ _
  have HFR : Hid (∀ V (e u : Int), Below W0.heap.size W0 V → Calls Tryz.prog 48 #[.agg (mdC q M), .agg (stC r s), .int .i64 e, .int .i64 u] V (Ret V (.bool (freeS M s e u)))) := fun V e u hV => rfreeQ (HM.out.below hV) (HS.out.below hV) hk hro e u
  have HCO : Hid (∀ V, Below W0.heap.size W0 V → Calls Tryz.prog 35 #[.agg (mdC q M), .agg (stC r s)] V (Ret V (.bool (complS M s)))) := fun V hV => rcomplQ (HM.out.below hV) (HS.out.below hV) hk
  have HAN : Hid (∀ V, Below W0.heap.size W0 V → Calls Tryz.prog 49 #[.agg (mdC q M), .agg (stC r s)] V (Ret V (.bool (anyS M s)))) := fun V hV => ranyQ (HM.out.below hV) (HS.out.below hV) hk hro hu
  have HHA := Lib.hid (fun (i : Int) V => rhasN hk.opn i V)
  unfold mdC stC at HFR HCO HAN
  clear hro
  unfold MdB StB at HF
  unfold mdC at h1
  unfold stC at h2
  unfold mdC stC
  clear hm hs hk
  obtain ⟨⟨c0, c1, c2, c3, c4, c5, c6, c7, c8, c9⟩, d0, d1, d2, d3, d4⟩ := HF.out _ HB0.out
  obtain ⟨R, hR⟩ : ∃ R, stuckS M s = R := ⟨_, rfl⟩
  obtain ⟨oa, hoa⟩ : ∃ o, openA M s = o := ⟨_, rfl⟩
  obtain ⟨fa, hfa⟩ : ∃ o, freeA M s = o := ⟨_, rfl⟩
  have HR : Hid (R = (oa && fa && !complS M s && !anyS M s)) := by unfold Hid; rw [← hR, ← hoa, ← hfa]; rfl
  have HOA : Hid ((List.range M.stages.length).any (fun i => hasB s.opn i) = oa) := hoa
  have HFA : Hid ((List.range M.events.length).any (freeU M s) = fa) := hfa
  rw [hR]
  clear hR hoa hfa
  go_enter Tryz.func36, Tryz.ntmps36
  go_wp2
  go_loopw [5, 7] (fun o i wr => ∃ k : Nat, i = .int .i64 (k : Int) ∧ o = .bool ((List.range k).any (fun i => hasB s.opn i)) ∧ k ≤ M.stages.length ∧ wr = W0) (fun _ i _ => M.stages.length - (intOf i).toNat)
  case atStart => exact ⟨0, rfl, rfl, Nat.zero_le _, rfl⟩
  case round =>
    obtain ⟨k, rfl, rfl, hk, rfl⟩ := hrel
    obtain ⟨o, ho⟩ : ∃ o, (List.range k).any (fun i => hasB s.opn i) = o := ⟨_, rfl⟩
    have HO := Lib.hid ho
    rw [ho]
    clear ho
    rcases Nat.lt_or_ge k M.stages.length with hlt | hge
    · have hkz := ltI hlt
      cases o
      · obtain ⟨t, ht⟩ : ∃ t, hasB s.opn (k : Int) = t := ⟨_, rfl⟩
        have HHX := Lib.hid (HHA.out (k : Int) wr)
        have HT := Lib.hid ht
        rw [ht] at HHX
        clear ht
        go_wp2_with fail
        refine (HHX.out).mono ?_
        rintro e w9 ⟨rfl, rfl⟩
        go_wp2
        go_roundw
        case rel => exact ⟨k + 1, by go_num, by rw [any_step HO.out HT.out rfl]; simp, hlt, trivial⟩
        case measure => simp [intOf]; omega
      · go_wp2
        go_roundw
        case rel => exact ⟨k + 1, by go_num, by rw [any_step HO.out rfl (Bool.true_or _)], hlt, trivial⟩
        case measure => simp [intOf]; omega
    · have hkn : k = M.stages.length := by omega
      have HOE : Hid (o = oa) := by unfold Hid; rw [← HO.out, ← HOA.out, hkn]
      have hge' := nltI (Nat.not_lt.2 hge)
      clear hge
      have hoe := HOE.out
      subst hoe
      clear HO HOA hkn
      obtain ⟨w0, hw0⟩ : ∃ W, wr = W := ⟨_, rfl⟩
      rw [hw0] at HM HS HF HB0 HFR HCO HAN HB h2 c0 c1 c2 c3 c4 c5 c6 c7 c8 c9 d0 d1 d2 d3 d4 ⊢
      clear hw0
      go_wp2
      go_loopw [6, 8, 9] (fun o i _ wr => ∃ k : Nat, i = .int .i64 (k : Int) ∧ o = .bool ((List.range k).any (freeU M s)) ∧ k ≤ M.events.length ∧ Hid (Below w0.heap.size w0 wr)) (fun _ i _ _ => M.events.length - (intOf i).toNat)
      case atStart => exact ⟨0, rfl, rfl, Nat.zero_le _, Below.refl _ _⟩
      case round =>
        obtain ⟨k2, rfl, rfl, hk2, HB3⟩ := hrel
        obtain ⟨p, hp⟩ : ∃ o, (List.range k2).any (freeU M s) = o := ⟨_, rfl⟩
        have HP := Lib.hid hp
        rw [hp]
        clear hp
        clear c0 c1 c2 c3 c4 c5 c6 c7 c8 c9 d0 d1 d2 d3 d4
        obtain ⟨⟨c0, c1, c2, c3, c4, c5, c6, c7, c8, c9⟩, d0, d1, d2, d3, d4⟩ := HF.out _ HB3.out
        rcases Nat.lt_or_ge k2 M.events.length with hlt | hge
        · have hkz := ltI hlt
          obtain ⟨w1, hw1⟩ : ∃ W, wr = W := ⟨_, rfl⟩
          rw [hw1] at HB3 c0 c1 c2 c3 c4 c5 c6 c7 c8 c9 d0 d1 d2 d3 d4 ⊢
          clear hw1
          go_wp2
          go_loopw [6, 9] (fun o i wr => ∃ j : Nat, i = .int .i64 (j : Int) ∧ o = .bool (p || (List.range j).any (fun u => freeS M s (k2 : Int) (u : Int))) ∧ j ≤ M.users.length ∧ Hid (Below w0.heap.size w0 wr)) (fun _ i _ => M.users.length - (intOf i).toNat)
          case atStart => exact ⟨0, rfl, by simp, Nat.zero_le _, HB3.out⟩
          case round =>
            obtain ⟨j, rfl, rfl, hj, HB5⟩ := hrel
            obtain ⟨o, ho⟩ : ∃ o, (p || (List.range j).any (fun u => freeS M s (k2 : Int) (u : Int))) = o := ⟨_, rfl⟩
            have HO := Lib.hid ho
            rw [ho]
            clear ho
            clear c0 c1 c2 c3 c4 c5 c6 c7 c8 c9 d0 d1 d2 d3 d4
            obtain ⟨⟨c0, c1, c2, c3, c4, c5, c6, c7, c8, c9⟩, d0, d1, d2, d3, d4⟩ := HF.out _ HB5.out
            rcases Nat.lt_or_ge j M.users.length with hl2 | hg2
            · have hjz := ltI hl2
              cases o
              · obtain ⟨t, ht⟩ : ∃ t, freeS M s (k2 : Int) (j : Int) = t := ⟨_, rfl⟩
                have HFX := Lib.hid (HFR.out wr (k2 : Int) (j : Int) HB5.out)
                have HT := Lib.hid ht
                rw [ht] at HFX
                clear ht
                go_wp2_with fail
                refine (HFX.out).mono ?_
                rintro e6 W6 ⟨rfl, hb6⟩
                have HB6 := Lib.hid (HB5.out.trans (hb6.mono HB5.out.size))
                clear c0 c1 c2 c3 c4 c5 c6 c7 c8 c9 d0 d1 d2 d3 d4 hb6
                obtain ⟨⟨c0, c1, c2, c3, c4, c5, c6, c7, c8, c9⟩, d0, d1, d2, d3, d4⟩ := HF.out _ HB6.out
                go_wp2
                go_roundw
                case rel => exact ⟨j + 1, by go_num, by rw [anyR_succ, ← Bool.or_assoc, HO.out, HT.out]; simp, hl2, HB6.out⟩
                case measure => simp [intOf]; omega
              · go_wp2
                go_roundw
                case rel => exact ⟨j + 1, by go_num, by rw [anyR_succ, ← Bool.or_assoc, HO.out]; simp, hl2, HB5.out⟩
                case measure => simp [intOf]; omega
            · have hjn : j = M.users.length := by omega
              have hge2 := nltI (Nat.not_lt.2 hg2)
              have HE : Hid (o = (List.range (k2 + 1)).any (freeU M s)) := by unfold Hid; rw [anyR_succ, HP.out, ← HO.out, hjn]; rfl
              clear hjn hg2
              go_wp2
              go_roundw
              case rel => exact ⟨k2 + 1, by go_num, by rw [HE.out], hlt, HB5.out⟩
              case measure => simp [intOf]; omega
        · have hkn : k2 = M.events.length := by omega
          have HPE : Hid (p = fa) := by unfold Hid; rw [← HP.out, ← HFA.out, hkn]
          have hge2 := nltI (Nat.not_lt.2 hge)
          have hpe := HPE.out
          subst hpe
          clear hkn hge HP HFA
          cases o
          · have HRT : Hid (R = false) := by unfold Hid; rw [HR.out]; rfl
            go_wp2
            go_ret
            exact ⟨ret_bool (HRT.out.symm), HB.out.trans (HB3.out.mono HB.out.size)⟩
          cases p
          · have HRT : Hid (R = false) := by unfold Hid; rw [HR.out]; rfl
            go_wp2
            go_ret
            exact ⟨ret_bool (HRT.out.symm), HB.out.trans (HB3.out.mono HB.out.size)⟩
          obtain ⟨ca, hca⟩ : ∃ c, complS M s = c := ⟨_, rfl⟩
          have HCX := Lib.hid (HCO.out _ HB3.out)
          rw [hca] at HCX HR
          clear hca
          go_wp2_with fail
          refine (HCX.out).mono ?_
          rintro e4 W4 ⟨rfl, hb4⟩
          have HB4 := Lib.hid (HB3.out.trans (hb4.mono HB3.out.size))
          clear c0 c1 c2 c3 c4 c5 c6 c7 c8 c9 d0 d1 d2 d3 d4 hb4
          obtain ⟨⟨c0, c1, c2, c3, c4, c5, c6, c7, c8, c9⟩, d0, d1, d2, d3, d4⟩ := HF.out _ HB4.out
          cases ca
          case true =>
            have HRT : Hid (R = false) := by unfold Hid; rw [HR.out]; rfl
            go_wp2
            go_ret
            exact ⟨ret_bool (HRT.out.symm), HB.out.trans (HB4.out.mono HB.out.size)⟩
          obtain ⟨aa, haa⟩ : ∃ c, anyS M s = c := ⟨_, rfl⟩
          have HAX := Lib.hid (HAN.out _ HB4.out)
          rw [haa] at HAX HR
          clear haa
          go_wp2_with fail
          refine (HAX.out).mono ?_
          rintro e5 W5 ⟨rfl, hb5⟩
          have HB5 := Lib.hid (HB4.out.trans (hb5.mono HB4.out.size))
          clear c0 c1 c2 c3 c4 c5 c6 c7 c8 c9 d0 d1 d2 d3 d4 hb5
          obtain ⟨⟨c0, c1, c2, c3, c4, c5, c6, c7, c8, c9⟩, d0, d1, d2, d3, d4⟩ := HF.out _ HB5.out
          cases aa
          · have HRT : Hid (R = true) := by unfold Hid; rw [HR.out]; rfl
            go_wp2
            go_ret
            exact ⟨ret_bool (HRT.out.symm), HB.out.trans (HB5.out.mono HB.out.size)⟩
          · have HRT : Hid (R = false) := by unfold Hid; rw [HR.out]; rfl
            go_wp2
            go_ret
            exact ⟨ret_bool (HRT.out.symm), HB.out.trans (HB5.out.mono HB.out.size)⟩
end Go.Proofs.YtadjnfpomjopkaaGreat

namespace Go.Proofs.YtadjnfpomjopkaaGreat
open Go.RowKit

set_option maxRecDepth 100000 in
set_option maxHeartbeats 4000000 in
theorem rarity_any (w : World) (op : Int) :
    Calls Tryz.prog 59 #[.int .i64 op] w fun e w' => e = .returned (.int .i64 (arN op)) ∧ w' = w := by
  rcases (show op < 1 ∨ (1 ≤ op ∧ op ≤ 14) ∨ op = 15 ∨ op = 16 ∨ op = 17 ∨ op = 18 ∨ (19 ≤ op ∧ op ≤ 24) ∨ op = 25 ∨ op = 26 ∨ 26 < op by omega) with h | h | rfl | rfl | rfl | rfl | h | rfl | rfl | h
  · have H : Hid (arN op = -1) := by unfold Hid arN; rw [if_neg (by omega), if_neg (by omega), if_neg (by omega)]
    rw [H.out]
    clear H
    have d0 : decide ((1 : Int) ≤ op) = false := decide_eq_false (by omega)
    have d1 : decide (op ≤ (1 : Int)) = true := decide_eq_true (by omega)
    have d2 : (op == 1) = false := beq_eq_false_iff_ne.2 (by omega)
    have d3 : decide ((14 : Int) ≤ op) = false := decide_eq_false (by omega)
    have d4 : decide (op ≤ (14 : Int)) = true := decide_eq_true (by omega)
    have d5 : (op == 14) = false := beq_eq_false_iff_ne.2 (by omega)
    have d6 : decide ((15 : Int) ≤ op) = false := decide_eq_false (by omega)
    have d7 : decide (op ≤ (15 : Int)) = true := decide_eq_true (by omega)
    have d8 : (op == 15) = false := beq_eq_false_iff_ne.2 (by omega)
    have d9 : decide ((16 : Int) ≤ op) = false := decide_eq_false (by omega)
    have d10 : decide (op ≤ (16 : Int)) = true := decide_eq_true (by omega)
    have d11 : (op == 16) = false := beq_eq_false_iff_ne.2 (by omega)
    have d12 : decide ((17 : Int) ≤ op) = false := decide_eq_false (by omega)
    have d13 : decide (op ≤ (17 : Int)) = true := decide_eq_true (by omega)
    have d14 : (op == 17) = false := beq_eq_false_iff_ne.2 (by omega)
    have d15 : decide ((18 : Int) ≤ op) = false := decide_eq_false (by omega)
    have d16 : decide (op ≤ (18 : Int)) = true := decide_eq_true (by omega)
    have d17 : (op == 18) = false := beq_eq_false_iff_ne.2 (by omega)
    have d18 : decide ((19 : Int) ≤ op) = false := decide_eq_false (by omega)
    have d19 : decide (op ≤ (19 : Int)) = true := decide_eq_true (by omega)
    have d20 : (op == 19) = false := beq_eq_false_iff_ne.2 (by omega)
    have d21 : decide ((24 : Int) ≤ op) = false := decide_eq_false (by omega)
    have d22 : decide (op ≤ (24 : Int)) = true := decide_eq_true (by omega)
    have d23 : (op == 24) = false := beq_eq_false_iff_ne.2 (by omega)
    have d24 : decide ((25 : Int) ≤ op) = false := decide_eq_false (by omega)
    have d25 : decide (op ≤ (25 : Int)) = true := decide_eq_true (by omega)
    have d26 : (op == 25) = false := beq_eq_false_iff_ne.2 (by omega)
    have d27 : decide ((26 : Int) ≤ op) = false := decide_eq_false (by omega)
    have d28 : decide (op ≤ (26 : Int)) = true := decide_eq_true (by omega)
    have d29 : (op == 26) = false := beq_eq_false_iff_ne.2 (by omega)
    clear h
    go_enter Tryz.func59, Tryz.ntmps59
    go_wp2
    go_ret
    exact ⟨rfl, rfl⟩
  · have H : Hid (arN op = 0) := by unfold Hid arN; rw [if_pos (by omega)]
    rw [H.out]
    clear H
    have d0 : decide ((1 : Int) ≤ op) = true := decide_eq_true (by omega)
    have d1 : decide (op ≤ (14 : Int)) = true := decide_eq_true (by omega)
    have d2 : decide ((15 : Int) ≤ op) = false := decide_eq_false (by omega)
    have d3 : decide (op ≤ (15 : Int)) = true := decide_eq_true (by omega)
    have d4 : (op == 15) = false := beq_eq_false_iff_ne.2 (by omega)
    have d5 : decide ((16 : Int) ≤ op) = false := decide_eq_false (by omega)
    have d6 : decide (op ≤ (16 : Int)) = true := decide_eq_true (by omega)
    have d7 : (op == 16) = false := beq_eq_false_iff_ne.2 (by omega)
    have d8 : decide ((17 : Int) ≤ op) = false := decide_eq_false (by omega)
    have d9 : decide (op ≤ (17 : Int)) = true := decide_eq_true (by omega)
    have d10 : (op == 17) = false := beq_eq_false_iff_ne.2 (by omega)
    have d11 : decide ((18 : Int) ≤ op) = false := decide_eq_false (by omega)
    have d12 : decide (op ≤ (18 : Int)) = true := decide_eq_true (by omega)
    have d13 : (op == 18) = false := beq_eq_false_iff_ne.2 (by omega)
    have d14 : decide ((19 : Int) ≤ op) = false := decide_eq_false (by omega)
    have d15 : decide (op ≤ (19 : Int)) = true := decide_eq_true (by omega)
    have d16 : (op == 19) = false := beq_eq_false_iff_ne.2 (by omega)
    have d17 : decide ((24 : Int) ≤ op) = false := decide_eq_false (by omega)
    have d18 : decide (op ≤ (24 : Int)) = true := decide_eq_true (by omega)
    have d19 : (op == 24) = false := beq_eq_false_iff_ne.2 (by omega)
    have d20 : decide ((25 : Int) ≤ op) = false := decide_eq_false (by omega)
    have d21 : decide (op ≤ (25 : Int)) = true := decide_eq_true (by omega)
    have d22 : (op == 25) = false := beq_eq_false_iff_ne.2 (by omega)
    have d23 : decide ((26 : Int) ≤ op) = false := decide_eq_false (by omega)
    have d24 : decide (op ≤ (26 : Int)) = true := decide_eq_true (by omega)
    have d25 : (op == 26) = false := beq_eq_false_iff_ne.2 (by omega)
    clear h
    go_enter Tryz.func59, Tryz.ntmps59
    go_wp2
    go_ret
    exact ⟨rfl, rfl⟩
  · have H : Hid (arN 15 = 1) := rfl
    rw [H.out]
    clear H
    go_enter Tryz.func59, Tryz.ntmps59
    go_wp2
    go_ret
    exact ⟨rfl, rfl⟩
  · have H : Hid (arN 16 = 2) := rfl
    rw [H.out]
    clear H
    go_enter Tryz.func59, Tryz.ntmps59
    go_wp2
    go_ret
    exact ⟨rfl, rfl⟩
  · have H : Hid (arN 17 = 2) := rfl
    rw [H.out]
    clear H
    go_enter Tryz.func59, Tryz.ntmps59
    go_wp2
    go_ret
    exact ⟨rfl, rfl⟩
  · have H : Hid (arN 18 = 2) := rfl
    rw [H.out]
    clear H
    go_enter Tryz.func59, Tryz.ntmps59
    go_wp2
    go_ret
    exact ⟨rfl, rfl⟩
  · have H : Hid (arN op = 1) := by unfold Hid arN; rw [if_neg (by omega), if_pos (by omega)]
    rw [H.out]
    clear H
    have d0 : decide ((1 : Int) ≤ op) = true := decide_eq_true (by omega)
    have d1 : decide (op ≤ (1 : Int)) = false := decide_eq_false (by omega)
    have d2 : (op == 1) = false := beq_eq_false_iff_ne.2 (by omega)
    have d3 : decide ((14 : Int) ≤ op) = true := decide_eq_true (by omega)
    have d4 : decide (op ≤ (14 : Int)) = false := decide_eq_false (by omega)
    have d5 : (op == 14) = false := beq_eq_false_iff_ne.2 (by omega)
    have d6 : decide ((15 : Int) ≤ op) = true := decide_eq_true (by omega)
    have d7 : decide (op ≤ (15 : Int)) = false := decide_eq_false (by omega)
    have d8 : (op == 15) = false := beq_eq_false_iff_ne.2 (by omega)
    have d9 : decide ((16 : Int) ≤ op) = true := decide_eq_true (by omega)
    have d10 : decide (op ≤ (16 : Int)) = false := decide_eq_false (by omega)
    have d11 : (op == 16) = false := beq_eq_false_iff_ne.2 (by omega)
    have d12 : decide ((17 : Int) ≤ op) = true := decide_eq_true (by omega)
    have d13 : decide (op ≤ (17 : Int)) = false := decide_eq_false (by omega)
    have d14 : (op == 17) = false := beq_eq_false_iff_ne.2 (by omega)
    have d15 : decide ((18 : Int) ≤ op) = true := decide_eq_true (by omega)
    have d16 : decide (op ≤ (18 : Int)) = false := decide_eq_false (by omega)
    have d17 : (op == 18) = false := beq_eq_false_iff_ne.2 (by omega)
    have d18 : decide ((19 : Int) ≤ op) = true := decide_eq_true (by omega)
    have d19 : decide (op ≤ (24 : Int)) = true := decide_eq_true (by omega)
    have d20 : decide ((25 : Int) ≤ op) = false := decide_eq_false (by omega)
    have d21 : decide (op ≤ (25 : Int)) = true := decide_eq_true (by omega)
    have d22 : (op == 25) = false := beq_eq_false_iff_ne.2 (by omega)
    have d23 : decide ((26 : Int) ≤ op) = false := decide_eq_false (by omega)
    have d24 : decide (op ≤ (26 : Int)) = true := decide_eq_true (by omega)
    have d25 : (op == 26) = false := beq_eq_false_iff_ne.2 (by omega)
    clear h
    go_enter Tryz.func59, Tryz.ntmps59
    go_wp2
    go_ret
    exact ⟨rfl, rfl⟩
  · have H : Hid (arN 25 = 2) := rfl
    rw [H.out]
    clear H
    go_enter Tryz.func59, Tryz.ntmps59
    go_wp2
    go_ret
    exact ⟨rfl, rfl⟩
  · have H : Hid (arN 26 = 2) := rfl
    rw [H.out]
    clear H
    go_enter Tryz.func59, Tryz.ntmps59
    go_wp2
    go_ret
    exact ⟨rfl, rfl⟩
  · have H : Hid (arN op = -1) := by unfold Hid arN; rw [if_neg (by omega), if_neg (by omega), if_neg (by omega)]
    rw [H.out]
    clear H
    have d0 : decide ((1 : Int) ≤ op) = true := decide_eq_true (by omega)
    have d1 : decide (op ≤ (1 : Int)) = false := decide_eq_false (by omega)
    have d2 : (op == 1) = false := beq_eq_false_iff_ne.2 (by omega)
    have d3 : decide ((14 : Int) ≤ op) = true := decide_eq_true (by omega)
    have d4 : decide (op ≤ (14 : Int)) = false := decide_eq_false (by omega)
    have d5 : (op == 14) = false := beq_eq_false_iff_ne.2 (by omega)
    have d6 : decide ((15 : Int) ≤ op) = true := decide_eq_true (by omega)
    have d7 : decide (op ≤ (15 : Int)) = false := decide_eq_false (by omega)
    have d8 : (op == 15) = false := beq_eq_false_iff_ne.2 (by omega)
    have d9 : decide ((16 : Int) ≤ op) = true := decide_eq_true (by omega)
    have d10 : decide (op ≤ (16 : Int)) = false := decide_eq_false (by omega)
    have d11 : (op == 16) = false := beq_eq_false_iff_ne.2 (by omega)
    have d12 : decide ((17 : Int) ≤ op) = true := decide_eq_true (by omega)
    have d13 : decide (op ≤ (17 : Int)) = false := decide_eq_false (by omega)
    have d14 : (op == 17) = false := beq_eq_false_iff_ne.2 (by omega)
    have d15 : decide ((18 : Int) ≤ op) = true := decide_eq_true (by omega)
    have d16 : decide (op ≤ (18 : Int)) = false := decide_eq_false (by omega)
    have d17 : (op == 18) = false := beq_eq_false_iff_ne.2 (by omega)
    have d18 : decide ((19 : Int) ≤ op) = true := decide_eq_true (by omega)
    have d19 : decide (op ≤ (19 : Int)) = false := decide_eq_false (by omega)
    have d20 : (op == 19) = false := beq_eq_false_iff_ne.2 (by omega)
    have d21 : decide ((24 : Int) ≤ op) = true := decide_eq_true (by omega)
    have d22 : decide (op ≤ (24 : Int)) = false := decide_eq_false (by omega)
    have d23 : (op == 24) = false := beq_eq_false_iff_ne.2 (by omega)
    have d24 : decide ((25 : Int) ≤ op) = true := decide_eq_true (by omega)
    have d25 : decide (op ≤ (25 : Int)) = false := decide_eq_false (by omega)
    have d26 : (op == 25) = false := beq_eq_false_iff_ne.2 (by omega)
    have d27 : decide ((26 : Int) ≤ op) = true := decide_eq_true (by omega)
    have d28 : decide (op ≤ (26 : Int)) = false := decide_eq_false (by omega)
    have d29 : (op == 26) = false := beq_eq_false_iff_ne.2 (by omega)
    clear h
    go_enter Tryz.func59, Tryz.ntmps59
    go_wp2
    go_ret
    exact ⟨rfl, rfl⟩

theorem itAt_some {l : List It} {i : Nat} {x : It} (h : l[i]? = some x) : itAt l i = x := by unfold itAt; rw [h]
set_option maxRecDepth 100000 in
set_option maxHeartbeats 4000000 in
theorem rbegin_any {w : World} {v : Value} {O : List It} (h : ItIn w v O) (n : Nat) (hn : n ≤ O.length) (hO : O.length ≤ 1000) :
    Calls Tryz.prog 58 #[v, .int .i64 ((n : Int) - 1)] w fun e w' => e = .returned (.int .i64 (begB O n 1)) ∧ w' = w := by
  obtain ⟨ad, cap, hv⟩ := h.len
  subst hv
  have HR := Lib.hid h
  obtain ⟨z, hz⟩ : ∃ z, begB O n 1 = z := ⟨_, rfl⟩
  have HZ := Lib.hid hz
  rw [hz]
  clear h hz
  go_enter Tryz.func58, Tryz.ntmps58
  go_wp2
  go_loopw [5, 6] (fun wt i wr => ∃ (k : Nat) (want : Int), i = .int .i64 ((k : Int) - 1) ∧ wt = .int .i64 want ∧ k ≤ n ∧ 1 ≤ want ∧ want ≤ 1 + (n - k : Nat) ∧ Hid (begB O k want = z) ∧ wr = w) (fun _ i _ => (intOf i + 1).toNat)
  case atStart => exact ⟨n, 1, rfl, rfl, Nat.le_refl _, by omega, by omega, HZ, rfl⟩
  case round =>
    obtain ⟨k, want, rfl, rfl, hk, hw0, hw1, HE, hww⟩ := hrel
    subst hww
    cases k with
    | zero =>
      have HF : Hid (z = -1) := by unfold Hid; rw [← HE.out]; rfl
      go_wp2
      go_ret
      exact ⟨ret_int HF.out.symm, rfl⟩
    | succ k =>
      obtain ⟨x, hx⟩ : ∃ x, O[k]? = some x := ⟨_, List.getElem?_eq_getElem (by omega)⟩
      have hE := HE.out
      rw [begB, itAt_some hx] at hE
      obtain ⟨g, off, c1, hg, hgl, a0, a1, a2, a3, a4, a5, a6, a7, a8⟩ := HR.out.at hx
      simp only [Value.slice.injEq, true_and] at hg
      obtain ⟨rfl, rfl⟩ := hg
      have hkz : (k : Int) < (O.length : Int) := by omega
      have hk0 : (0 : Int) ≤ (k : Int) := by omega
      rw [show ((k + 1 : Nat) : Int) - 1 = (k : Int) by omega]
      have HA := Lib.hid (rarity_any wr x.op)
      have har := arN_in x.op
      obtain ⟨a, ha⟩ : ∃ a, arN x.op = a := ⟨_, rfl⟩
      rw [ha] at hE HA har
      by_cases hneg : a < 0
      · rw [if_pos hneg] at hE
        have HF := Lib.hid hE
        have hng : decide (a < 0) = true := decide_eq_true hneg
        clear hE hx ha HE
        go_wp2_with fail
        refine HA.out.mono ?_
        rintro e w2 ⟨rfl, rfl⟩
        go_wp2
        go_ret
        exact ⟨ret_int HF.out, rfl⟩
      rw [if_neg hneg] at hE
      have hng : decide (a < 0) = false := decide_eq_false hneg
      have hw2 : IntKind.i64.wrap (want + (a - 1)) = want + a - 1 := by rw [show want + (a - 1) = want + a - 1 by omega]; exact IntWalk.i64_in _ ⟨by omega, by omega⟩
      have hw3 : IntKind.i64.wrap (a - 1) = a - 1 := IntWalk.i64_in _ ⟨by omega, by omega⟩
      by_cases h0 : want + a - 1 = 0
      · rw [if_pos h0] at hE
        have HF := Lib.hid hE
        rw [h0] at hw2
        clear hE hx ha HE h0
        go_wp2_with fail
        refine HA.out.mono ?_
        rintro e w2 ⟨rfl, rfl⟩
        go_wp2
        go_ret
        exact ⟨ret_int HF.out, rfl⟩
      · rw [if_neg h0] at hE
        have HF := Lib.hid hE
        have h0b : (want + a - 1 == 0) = false := beq_eq_false_iff_ne.2 h0
        have hw4 : 1 ≤ want + a - 1 ∧ want + a - 1 ≤ 1 + (n - k : Nat) := by omega
        obtain ⟨u, hu⟩ : ∃ u, want + a - 1 = u := ⟨_, rfl⟩
        rw [hu] at hw2 h0b HF hw4
        clear hE hx ha HE h0
        go_wp2_with fail
        refine HA.out.mono ?_
        rintro e w2 ⟨rfl, rfl⟩
        go_wp2
        go_roundw
        case rel => exact ⟨k, u, by go_num, rfl, by omega, hw4.1, hw4.2, HF, trivial⟩
        case measure => simp [intOf]

end Go.Proofs.YtadjnfpomjopkaaGreat

namespace Go.Proofs.YtadjnfpomjopkaaGreat
open Go.RowKit

/-! Kids -/
set_option maxRecDepth 100000 in
set_option maxHeartbeats 1000000 in
theorem kids_0 {w : World} {v : Value} {O : List It} (h : ItIn w v O) {e : Nat} {x : It} (hx : O[e]? = some x) (hop : arN x.op = 0) :
    Calls Tryz.prog 43 #[v, .int .i64 e] w fun en w' => en = .returned (.slice none 0 0) ∧ w' = w := by
  obtain ⟨g, off, cap, hv, hgl, a0, _, _, _, _, _, _, _, _⟩ := h.at hx
  subst hv
  have hlt := (List.getElem?_eq_some_iff.1 hx).1
  have HA := Lib.hid (rarity_any w x.op)
  rw [hop] at HA
  have hez : (e : Int) < (O.length : Int) := by omega
  have he0 : (0 : Int) ≤ (e : Int) := by omega
  clear h hx hop hlt
  go_enter Tryz.func43, Tryz.ntmps43
  go_wp2_with fail
  refine HA.out.mono ?_
  rintro e w3 ⟨rfl, rfl⟩
  go_wp2
  go_ret
  exact ⟨rfl, rfl⟩
set_option maxRecDepth 100000 in
set_option maxHeartbeats 1000000 in
theorem kids_1 {w : World} {v : Value} {O : List It} (h : ItIn w v O) {e : Nat} {x : It} (hx : O[e + 1]? = some x) (hop : arN x.op = 1) (hl : O.length ≤ 1000) :
    Calls Tryz.prog 43 #[v, .int .i64 ((e : Int) + 1)] w fun en w' => en = .returned (.slice (some ⟨w.heap.size, 0, none⟩) 1 1) ∧ w' = w.alloc (.cells #[.int .i64 e] 3) := by
  obtain ⟨g, off, cap, hv, hgl, a0, _, _, _, _, _, _, _, _⟩ := h.at hx
  subst hv
  have hlt := (List.getElem?_eq_some_iff.1 hx).1
  have HA := Lib.hid (rarity_any w x.op)
  rw [hop] at HA
  have hez : (e : Int) + 1 < (O.length : Int) := by omega
  have he0 : (0 : Int) ≤ (e : Int) + 1 := by omega
  have ht1 : ((e : Int) + 1).toNat = e + 1 := by omega
  have hw3 : wrap64 (e : Int) = e := by unfold wrap64; omega
  have hw4 : IntKind.i64.wrap (e : Int) = e := IntWalk.i64_in _ ⟨by omega, by omega⟩
  have hw1 : IntKind.i64.wrap ((e : Int) + 1 - 1) = e := by rw [show (e : Int) + 1 - 1 = e by omega]; exact IntWalk.i64_in _ ⟨by omega, by omega⟩
  clear h hx hop hlt hl
  go_enter Tryz.func43, Tryz.ntmps43
  go_wp2_with fail
  refine HA.out.mono ?_
  rintro e w3 ⟨rfl, rfl⟩
  go_wp2
  go_ret
  exact ⟨rfl, rfl⟩
set_option maxRecDepth 100000 in
set_option maxHeartbeats 400000 in
theorem kids_2 {w : World} {v : Value} {O : List It} (h : ItIn w v O) {e : Nat} {x : It} (hx : O[e + 1]? = some x) (hop : arN x.op = 2) (hl : O.length ≤ 1000) {k : Nat} (hk : begB O (e + 1) 1 = (k : Int) + 1) :
    Calls Tryz.prog 43 #[v, .int .i64 ((e : Int) + 1)] w fun en w' => en = .returned (.slice (some ⟨w.heap.size, 0, none⟩) 2 2) ∧ w' = w.alloc (.cells #[.int .i64 k, .int .i64 e] 3) := by
  obtain ⟨g, off, cap, hv, hgl, a0, _, _, _, _, _, _, _, _⟩ := h.at hx
  subst hv
  have hlt := (List.getElem?_eq_some_iff.1 hx).1
  have HA := Lib.hid (rarity_any w x.op)
  rw [hop] at HA
  have HG := Lib.hid (rbegin_any h (e + 1) (by omega) hl)
  have hkr : (k : Int) ≤ 1000 := by
    have hb := begB_range O (e + 1) 1
    rw [hk] at hb
    clear HG hk
    omega
  rw [show ((e + 1 : Nat) : Int) - 1 = (e : Int) by clear HG hk; omega] at HG
  obtain ⟨B, hB⟩ : ∃ B, begB O (e + 1) 1 = B := ⟨_, rfl⟩
  rw [hB] at HG hk
  obtain ⟨E, hE⟩ : ∃ E : Int, (e : Int) + 1 = E := ⟨_, rfl⟩
  obtain ⟨E0, hE0⟩ : ∃ E0 : Int, (e : Int) = E0 := ⟨_, rfl⟩
  obtain ⟨K, hK⟩ : ∃ K : Int, (k : Int) = K := ⟨_, rfl⟩
  have hez : E < (O.length : Int) := by clear HG; omega
  have he0 : (0 : Int) ≤ E := by clear HG; omega
  have ht1 : E.toNat = e + 1 := by clear HG; omega
  have hw1 : IntKind.i64.wrap (E - 1) = E0 := by rw [show E - 1 = E0 by clear HG; omega]; exact IntWalk.i64_in _ ⟨by clear HG; omega, by clear HG; omega⟩
  have hw2 : IntKind.i64.wrap (B - 1) = K := by rw [show B - 1 = K by clear HG; omega]; exact IntWalk.i64_in _ ⟨by clear HG; omega, by clear HG; omega⟩
  rw [hE0] at HG
  rw [hE, hE0, hK]
  clear h hx hop hlt hl hk hB hE hE0 hK hkr
  go_enter Tryz.func43, Tryz.ntmps43
  go_wp2_with fail
  refine HA.out.mono ?_
  rintro e w3 ⟨rfl, rfl⟩
  go_wp2_with fail
  refine HG.out.mono ?_
  rintro e w3 ⟨rfl, rfl⟩
  go_wp2
  go_ret
  exact ⟨rfl, rfl⟩

end Go.Proofs.YtadjnfpomjopkaaGreat
