/- The reference: Check of a formula; Compare, Shape, there, val (printed by gen_r7.py). -/
import Derived.Test.YtadjnfpomjopkaaGreatSm26
import Derived.Test.YtadjnfpomjopkaaGreatSm10

namespace Go.Proofs.YtadjnfpomjopkaaGreat
open Go.RowKit

set_option maxRecDepth 100000 in
set_option maxHeartbeats 2000000 in
theorem rck4_any {w : World} {v : Value} {O : List It} (h : ItIn w v O) :
    Calls Tryz.prog 41 #[v] w fun e w' => e = .returned (.int .i64 (chkN O)) ∧ w' = w := by
  obtain ⟨ad, cap, hv⟩ := h.len
  subst hv
  by_cases hl0 : O.length = 0
  · have H : Hid (chkN O = 12) := by unfold Hid chkN; rw [if_pos hl0]
    rw [H.out]
    have hz0 : ((O.length : Int) == 0) = true := beq_iff_eq.2 (by omega)
    clear h hl0
    go_enter Tryz.func41, Tryz.ntmps41
    go_wp2
    go_ret
    exact ⟨rfl, rfl⟩
  have hz0 : ((O.length : Int) == 0) = false := beq_eq_false_iff_ne.2 (by omega)
  by_cases hl64 : 64 < O.length
  · have H : Hid (chkN O = 3) := by unfold Hid chkN; rw [if_neg hl0, if_pos hl64]
    rw [H.out]
    have hz64 : (64 : Int) < (O.length : Int) := by omega
    clear h hl0
    go_enter Tryz.func41, Tryz.ntmps41
    go_wp2
    go_ret
    exact ⟨rfl, rfl⟩
  have hz64 : ¬ (64 : Int) < (O.length : Int) := by omega
  have HK : Hid (chkN O = match treeF O with | some _ => 0 | none => 17) := by unfold Hid chkN; rw [if_neg hl0, if_neg hl64]; cases treeF O <;> rfl
  have HG := Lib.hid (rbegin_any h O.length (Nat.le_refl _) (by omega))
  have HB : Hid (begB O O.length 1 = 0 ↔ ∃ f, treeF O = some f) := begB_treeF O
  obtain ⟨b, hb⟩ : ∃ b, begB O O.length 1 = b := ⟨_, rfl⟩
  rw [hb] at HG HB
  obtain ⟨n, hn⟩ : ∃ n : Int, (O.length : Int) = n := ⟨_, rfl⟩
  obtain ⟨m, hm⟩ : ∃ m : Int, n - 1 = m := ⟨_, rfl⟩
  have hwm : IntKind.i64.wrap (n - 1) = m := by rw [hm]; exact IntWalk.i64_in _ ⟨by clear HG; omega, by clear HG; omega⟩
  rw [hn, hm] at HG
  by_cases h0 : b = 0
  · have HC : Hid (chkN O = 0) := by
      unfold Hid
      obtain ⟨f, hf⟩ := HB.out.1 h0
      rw [HK.out, hf]
    rw [HC.out]
    have hbz : (b != 0) = false := by simpa using h0
    clear h hl0 hl64 hb h0 HB HK hm
    go_enter Tryz.func41, Tryz.ntmps41
    go_wp2_with fail
    refine HG.out.mono ?_
    rintro e w1 ⟨rfl, rfl⟩
    go_wp2
    go_ret
    exact ⟨rfl, rfl⟩
  · have HC : Hid (chkN O = 17) := by
      unfold Hid
      rw [HK.out]
      cases hf : treeF O with
      | none => rfl
      | some f => exact absurd (HB.out.2 ⟨f, hf⟩) h0
    rw [HC.out]
    have hbz : (b != 0) = true := bne_iff_ne.2 h0
    clear h hl0 hl64 hb h0 HB HK hm
    go_enter Tryz.func41, Tryz.ntmps41
    go_wp2_with fail
    refine HG.out.mono ?_
    rintro e w1 ⟨rfl, rfl⟩
    go_wp2
    go_ret
    exact ⟨rfl, rfl⟩


theorem cmpB_no {op a b : Int} (h : ¬ (3 ≤ op ∧ op ≤ 8)) : cmpB op a b = false := by
  unfold cmpB
  rw [if_neg (by omega), if_neg (by omega), if_neg (by omega), if_neg (by omega), if_neg (by omega), if_neg (by omega)]
set_option maxHeartbeats 2000000 in
theorem rcmp_any (op a b : Int) (w : World) : Calls Tryz.prog 44 #[.int .i64 op, .int .i64 a, .int .i64 b] w fun e w' => e = .returned (.bool (cmpB op a b)) ∧ w = w' := by
  rcases (show op = 3 ∨ op = 4 ∨ op = 5 ∨ op = 6 ∨ op = 7 ∨ op = 8 ∨ ¬ (3 ≤ op ∧ op ≤ 8) by omega) with p | p | p | p | p | p | p
  · subst p
    obtain ⟨c, hc⟩ : ∃ c, decide (a < b) = c := ⟨_, rfl⟩
    have H : Hid (cmpB 3 a b = c) := by unfold Hid cmpB; rw [if_pos rfl]; exact hc
    have hd : decide (a < b) = c := by rw [← hc]
    rw [H.out]
    clear H hc
    go_enter Tryz.func44, Tryz.ntmps44
    cases c <;>
    · go_wp2
      go_ret
      exact ⟨rfl, rfl⟩
  · subst p
    obtain ⟨c, hc⟩ : ∃ c, decide (a ≤ b) = c := ⟨_, rfl⟩
    have H : Hid (cmpB 4 a b = c) := by unfold Hid cmpB; rw [if_neg (by omega)]; rw [if_pos rfl]; exact hc
    have hd : decide (a ≤ b) = c := by rw [← hc]
    rw [H.out]
    clear H hc
    go_enter Tryz.func44, Tryz.ntmps44
    cases c <;>
    · go_wp2
      go_ret
      exact ⟨rfl, rfl⟩
  · subst p
    obtain ⟨c, hc⟩ : ∃ c, decide (b < a) = c := ⟨_, rfl⟩
    have H : Hid (cmpB 5 a b = c) := by unfold Hid cmpB; rw [if_neg (by omega)]; rw [if_neg (by omega)]; rw [if_pos rfl]; exact hc
    have hd : decide (b < a) = c := by rw [← hc]
    rw [H.out]
    clear H hc
    go_enter Tryz.func44, Tryz.ntmps44
    cases c <;>
    · go_wp2
      go_ret
      exact ⟨rfl, rfl⟩
  · subst p
    obtain ⟨c, hc⟩ : ∃ c, decide (b ≤ a) = c := ⟨_, rfl⟩
    have H : Hid (cmpB 6 a b = c) := by unfold Hid cmpB; rw [if_neg (by omega)]; rw [if_neg (by omega)]; rw [if_neg (by omega)]; rw [if_pos rfl]; exact hc
    have hd : decide (b ≤ a) = c := by rw [← hc]
    rw [H.out]
    clear H hc
    go_enter Tryz.func44, Tryz.ntmps44
    cases c <;>
    · go_wp2
      go_ret
      exact ⟨rfl, rfl⟩
  · subst p
    obtain ⟨c, hc⟩ : ∃ c, decide (a = b) = c := ⟨_, rfl⟩
    have H : Hid (cmpB 7 a b = c) := by unfold Hid cmpB; rw [if_neg (by omega)]; rw [if_neg (by omega)]; rw [if_neg (by omega)]; rw [if_neg (by omega)]; rw [if_pos rfl]; exact hc
    have hd : (a == b) = c := by rw [← hc]; rw [Bool.eq_iff_iff]; simp
    rw [H.out]
    clear H hc
    go_enter Tryz.func44, Tryz.ntmps44
    cases c <;>
    · go_wp2
      go_ret
      exact ⟨rfl, rfl⟩
  · subst p
    obtain ⟨c, hc⟩ : ∃ c, decide (a ≠ b) = c := ⟨_, rfl⟩
    have H : Hid (cmpB 8 a b = c) := by unfold Hid cmpB; rw [if_neg (by omega)]; rw [if_neg (by omega)]; rw [if_neg (by omega)]; rw [if_neg (by omega)]; rw [if_neg (by omega)]; rw [if_pos rfl]; exact hc
    have hd : (a != b) = c := by rw [← hc]; rw [Bool.eq_iff_iff]; simp
    rw [H.out]
    clear H hc
    go_enter Tryz.func44, Tryz.ntmps44
    cases c <;>
    · go_wp2
      go_ret
      exact ⟨rfl, rfl⟩
  · rw [cmpB_no p]
    have b3 : (op == 3) = false := beq_eq_false_iff_ne.2 (by omega)
    have b4 : (op == 4) = false := beq_eq_false_iff_ne.2 (by omega)
    have b5 : (op == 5) = false := beq_eq_false_iff_ne.2 (by omega)
    have b6 : (op == 6) = false := beq_eq_false_iff_ne.2 (by omega)
    have b7 : (op == 7) = false := beq_eq_false_iff_ne.2 (by omega)
    have b8 : (op == 8) = false := beq_eq_false_iff_ne.2 (by omega)
    clear p
    go_enter Tryz.func44, Tryz.ntmps44
    go_wp2
    go_ret
    exact ⟨rfl, rfl⟩

set_option maxRecDepth 100000 in
set_option maxHeartbeats 2000000 in
theorem rshape_any {w : World} {v : Value} {l : List Ins} (h : RowE instE 7 w v l) :
    Calls Tryz.prog 31 #[v] w fun e w' => ∃ v', e = .returned v' ∧ ItRow w' v' ((l.map itI).take 70) ∧ Below w.heap.size w w' := by
  obtain ⟨ad, cap, hv⟩ := h.len
  subst hv
  have HI := Lib.hid h
  have hmx := h.max
  obtain ⟨n, hn⟩ : ∃ n, l.length = n := ⟨_, rfl⟩
  have HN := Lib.hid hn
  rw [hn] at hmx HI ⊢
  obtain ⟨m, hm⟩ : ∃ m, min 70 n = m := ⟨_, rfl⟩
  have hm1 : m ≤ 70 := by omega
  have hm2 : m ≤ n := by omega
  have HMM : Hid (m = 70 ∨ m = n) := by unfold Hid; omega
  have HTL : Hid ((l.take 70).map itI = (l.take m).map itI ∧ ((l.take m).map itI).length = m) := by
    refine ⟨?_, by rw [List.length_map, List.length_take, hn]; omega⟩
    rcases (show m = 70 ∨ (m = n ∧ n ≤ 70) by omega) with q | q
    · rw [q]
    · rw [q.1, List.take_of_length_le (by omega), List.take_of_length_le (by omega)]
  clear h hn hm
  go_enter Tryz.func31, Tryz.ntmps31
  go_wp2
  go_loopw [3, 4] (fun vo i wr => ∃ k : Nat, i = .int .i64 (k : Int) ∧ k ≤ m ∧ Hid (wr.ownsRow w.heap.size 103 9 vo k (itFlat ((l.take k).map itI)) ∧ Below w.heap.size w wr)) (fun _ i _ => m - (intOf i).toNat)
  case atStart => exact ⟨0, rfl, Nat.zero_le _, World.ownsRow_nil _ _ _ _, Below.refl _ _⟩
  case round =>
    obtain ⟨k, rfl, hk, HALL⟩ := hrel
    obtain ⟨hrow, hb⟩ := HALL.out
    obtain ⟨adO, capO, hvO⟩ := owns_len hrow
    subst hvO
    rcases Nat.lt_or_ge k m with hlt | hge
    · obtain ⟨x, hx⟩ : ∃ x, l[k]? = some x := ⟨_, List.getElem?_eq_getElem (by rw [HN.out]; omega)⟩
      have hi : RowE instE 7 wr (.slice ad n cap) l := HI.out.below instE_keep hb
      obtain ⟨b, off, c, hvv, hbl, a0, a1, a2, a3, a4, a5, a6⟩ := insRow hi hx
      simp only [Value.slice.injEq] at hvv
      obtain ⟨rfl, -, rfl⟩ := hvv
      have hkz : (k : Int) < (n : Int) := by omega
      have hk70 : (k : Int) < 70 := by omega
      have HTK : Hid (itFlat ((l.take (k + 1)).map itI) = itFlat ((l.take k).map itI) ++ itCells (itI x)) := by
        unfold Hid
        rw [List.take_add_one, hx, List.map_append]
        exact itFlat_snoc _ _
      have HR1 := Lib.hid hrow
      have HB1 := Lib.hid hb
      clear hrow hb hi hx HALL
      go_wp2_with (first
        | (at_builtin; refine app1 _ #[.int .i64 x.op, .string ⟨#[]⟩, .int .i64 0, .string ⟨#[]⟩, .int .i64 0, .string ⟨#[]⟩, .string ⟨#[]⟩, .int .i64 0, .int .i64 0] rfl _ _ 61 rfl w.heap.size 103 _ 9 104 Tryz.underlying61 info_itemE rfl (by decide) (by decide) _ _ _ rfl (by exact HR1.out) rfl (by simp) rfl (by simp [Value.oneCell']) (by omega) HB1.out.size ?_
           intro v3 w3 hown3 hgr3 hbel
           obtain ⟨ad3, cap3, hv3⟩ := owns_len hown3
           subst hv3
           have HO3 := Lib.hid hown3; have HB3 := Lib.hid (HB1.out.trans (hbel.mono (Nat.le_refl _)))
           clear hown3 hgr3 hbel)
        | fail)
      go_roundw
      case rel => exact ⟨k + 1, by go_num, hlt, by have := HO3.out; rw [HTK.out]; exact this, HB3.out⟩
      case measure => simp [intOf]; omega
    · have hkn : k = m := by omega
      have HR := Lib.hid hrow
      have HB := Lib.hid hb
      have HFI : Hid (ItRow wr (.slice adO k capO) ((l.map itI).take 70)) := ⟨w.heap.size, by rw [← List.map_take, HTL.out.1, HTL.out.2, ← hkn]; exact HR.out⟩
      rcases (show k = 70 ∨ (k < 70 ∧ k = n) by have := HMM.out; omega) with q | q
      · have hq : ¬ (k : Int) < 70 := by omega
        clear hrow hb HALL hkn hge HR q
        by_cases q2 : (k : Int) < (n : Int)
        · go_wp2
          go_ret
          exact ⟨_, rfl, HFI.out, HB.out⟩
        · go_wp2
          go_ret
          exact ⟨_, rfl, HFI.out, HB.out⟩
      · have hq : ¬ (k : Int) < (n : Int) := by omega
        clear hrow hb HALL hkn hge HR q
        go_wp2
        go_ret
        exact ⟨_, rfl, HFI.out, HB.out⟩

set_option maxRecDepth 100000 in
set_option maxHeartbeats 1000000 in
theorem rthereQ {w : World} {r : Stm} {s : Sta} (hs : StQ w r s) (v : Int × Int) : Calls Tryz.prog 42 #[.agg (stC r s), .agg #[.int .i64 v.1, .int .i64 v.2]] w (Ret w (.bool (thereV s v))) := by
  obtain ⟨W1, h1, HB, HS, HF⟩ := boxS hs
  obtain ⟨W2, h2, hb2, x2⟩ := box1 W1 #[.int .i64 v.1, .int .i64 v.2] 35
  have hF := HF.out _ hb2
  have HB2 := Lib.hid (HB.out.trans (hb2.mono HB.out.size))
  have y0 := x2.cell (i := 0) rfl
  have y1 := x2.cell (i := 1) rfl
  unfold StB at hF
  unfold stC at h1
  unfold stC
  obtain ⟨d0, d1, d2, d3, d4⟩ := hF
  obtain ⟨R, hR⟩ : ∃ R, thereV s v = R := ⟨_, rfl⟩
  have HR : Hid ((decide (-1 ≤ v.1) && decide (v.1 < (s.vals.length : Int))) = R) := hR
  rw [hR]
  clear hs HF hb2 x2 hR
  by_cases p : -1 ≤ v.1
  · have b1 : decide ((-1 : Int) ≤ v.1) = true := decide_eq_true p
    by_cases p2 : v.1 < (s.vals.length : Int)
    · have b2 : decide (v.1 < (s.vals.length : Int)) = true := decide_eq_true p2
      rw [b1, b2] at HR
      clear p p2
      go_enter Tryz.func42, Tryz.ntmps42
      go_wp2
      go_ret
      exact ⟨ret_bool HR.out, HB2.out⟩
    · have b2 : decide (v.1 < (s.vals.length : Int)) = false := decide_eq_false p2
      rw [b1, b2] at HR
      clear p p2
      go_enter Tryz.func42, Tryz.ntmps42
      go_wp2
      go_ret
      exact ⟨ret_bool HR.out, HB2.out⟩
  · have b1 : decide ((-1 : Int) ≤ v.1) = false := decide_eq_false p
    rw [b1] at HR
    clear p
    go_enter Tryz.func42, Tryz.ntmps42
    go_wp2
    go_ret
    exact ⟨ret_bool HR.out, HB2.out⟩
set_option maxRecDepth 100000 in
set_option maxHeartbeats 1000000 in
theorem rvalQ {w : World} {r : Stm} {s : Sta} (hs : StQ w r s) (v : Int × Int) (ht : thereV s v = true) : Calls Tryz.prog 45 #[.agg (stC r s), .agg #[.int .i64 v.1, .int .i64 v.2]] w (Ret w (.int .i64 (valV s v))) := by
  unfold thereV at ht
  simp only [Bool.and_eq_true, decide_eq_true_eq] at ht
  obtain ⟨W1, h1, HB, HS, HF⟩ := boxS hs
  obtain ⟨W2, h2, hb2, x2⟩ := box1 W1 #[.int .i64 v.1, .int .i64 v.2] 35
  have hF := HF.out _ hb2
  have HB2 := Lib.hid (HB.out.trans (hb2.mono HB.out.size))
  have HS2 := Lib.hid (HS.out.below hb2)
  have y0 := x2.cell (i := 0) rfl
  have y1 := x2.cell (i := 1) rfl
  unfold StB at hF
  unfold stC at h1
  unfold stC
  obtain ⟨d0, d1, d2, d3, d4⟩ := hF
  obtain ⟨v1, v2⟩ := v
  dsimp only at *
  clear hs HF hb2 x2 HS
  by_cases p : v1 = -1
  · have HR : Hid (valV s (v1, v2) = v2) := by unfold Hid valV; rw [if_pos p]
    have b1 : (v1 == -1) = true := by simp [p]
    rw [HR.out]
    clear p ht
    go_enter Tryz.func45, Tryz.ntmps45
    go_wp2
    go_ret
    exact ⟨rfl, HB2.out⟩
  · obtain ⟨k, rfl⟩ : ∃ k : Nat, v1 = (k : Int) := ⟨v1.toNat, by omega⟩
    obtain ⟨x, hx⟩ : ∃ x, s.vals[k]? = some x := ⟨_, List.getElem?_eq_getElem (by omega)⟩
    obtain ⟨b, off, c, hv, hbl, hc⟩ := HS2.out.vals.int hx
    simp only [Value.slice.injEq, true_and] at hv
    have ha := hv.1
    have b1 : ((k : Int) == -1) = false := by simp [p]
    have hk0 : (0 : Int) ≤ (k : Int) := Int.natCast_nonneg _
    have hk1 := ht.2
    have HR : Hid (valV s ((k : Int), v2) = x) := by unfold Hid valV; rw [if_neg p, Int.toNat_natCast, List.getD_eq_getElem?_getD, hx]; rfl
    rw [HR.out]
    rw [ha] at h1 d0 ⊢
    clear p ht hx hv
    go_enter Tryz.func45, Tryz.ntmps45
    go_wp2
    go_ret
    exact ⟨rfl, HB2.out⟩
end Go.Proofs.YtadjnfpomjopkaaGreat
