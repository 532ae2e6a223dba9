/- The iterator of splits (package halve), whole: what comes, one by one. splits of package halve hands back an iterator with its contract; the counting of pairs in a map. -/
import Derived.Test.YtkkoooagamadjaaGreatDoorPk01
import Derived.Maps.OwnIn
import Derived.Maps.AppendAt
import Derived.WideKeyPair
import Derived.WideKeyEntry

namespace Go.Proofs.YtkkoooagamadjaaGreatDoor
open Go.RowKit Go.Shelf
attribute [local go_sem] Oper.semAt_some

def P.lim (h a : Int) : Int := min a h

theorem lim_cases (h a : Int) : (a ≤ h ∧ P.lim h a = a) ∨ (h < a ∧ P.lim h a = h) := by unfold P.lim; omega

theorem It.drew {bo bh bg br bY L l : Nat} {h c r x y : Int} {W : World} (t : It bo bh bg br bY L l h c r x y W) : It bo bh bg br bY L l h c r x y W.drew :=
  t.harb (D := fun _ => True) ⟨Nat.le_refl _, fun _ _ _ hf => ⟨rfl, hf⟩⟩ trivial trivial trivial trivial trivial

/-- one call of put -/
theorem put_step (F : Fence) (n : Nat) (hf : F.fn 139) (hro : F.round = none) (hn : 1 ≤ n) {bo bh bg br bY L l : Nat} {h c r : Int} {xs : List (Int × Int)} {D : Nat → Prop} {J : List (Int × Int) → World → Prop}
    (d1 : D bh) (d2 : D bg) (d3 : D br) (d4 : D bY) (d5 : D L) (nh : bh ≠ L) (ng : bg ≠ L) (nr : br ≠ L) (nY : bY ≠ L) (no : bo ≠ L)
    (hJa : ∀ s A o, J s A → J s (A.alloc o)) (hJs : ∀ s A i v, J s A → Free bo A L → J s (A.setCell ⟨L, i, none⟩ v))
    (hY : ∀ pre x W1, J pre W1 → pre ++ [x] <+: xs → YieldAt F (n - 1) Tryz.prog l #[.int .i64 x.1, .int .i64 x.2] W1 fun e W' => e = .returned (.bool true) ∧ J (pre ++ [x]) W' ∧ Harb D bo W1 W')
    (a b : Int) (pre : List (Int × Int)) (W : World) (hJ : J pre W) (ht : It bo bh bg br bY L l h c r (lastP pre).1 (lastP pre).2 W) (hx : adjA pre (P.lim h a, P.lim h b) <+: xs) :
    CallsIn F n Tryz.prog 139 #[.int .i64 a, .int .i64 b, .pointer (some ⟨bh, 0, none⟩), .pointer (some ⟨L, 0, none⟩), .pointer (some ⟨bY, 0, none⟩)] W
      fun e w' => e = .returned (.bool true) ∧ J (adjA pre (P.lim h a, P.lim h b)) w' ∧ It bo bh bg br bY L l h c r (P.lim h a) (P.lim h b) w' := by
  by_cases hp : lastP pre = (P.lim h a, P.lim h b)
  · have e : adjA pre (P.lim h a, P.lim h b) = pre := by unfold adjA; rw [if_pos hp]
    rw [e]
    rw [hp] at ht
    refine (put_same F n hf hro bh L bY a b h _ _ W (lim_cases h a) (lim_cases h b) ht.bhv ht.l0 ht.l1 ht.L_lt).mono ?_
    rintro e w' ⟨rfl, rfl⟩
    exact ⟨rfl, hJa _ _ _ hJ, ht.harb (Harb.alloc D ht.bo_lt _) d1 d2 d3 d4 d5⟩
  · have e : adjA pre (P.lim h a, P.lim h b) = pre ++ [(P.lim h a, P.lim h b)] := by unfold adjA; rw [if_neg hp]
    rw [e] at hx ⊢
    have s1 : It bo bh bg br bY L l h c r (P.lim h a) (P.lim h b) ((W.setCell ⟨L, 0, none⟩ (.int .i64 (P.lim h a))).setCell ⟨L, 1, none⟩ (.int .i64 (P.lim h b))) := by
      have h1 : Harb (fun k => k ≠ L) bo W (W.setCell ⟨L, 0, none⟩ (.int .i64 (P.lim h a))) := Harb.setCell _ ht.bo_lt (fun e => no e.symm) (by simp) _
      have b1 : bo < (W.setCell ⟨L, 0, none⟩ (.int .i64 (P.lim h a))).heap.size := Nat.lt_of_lt_of_le ht.bo_lt h1.size
      have h2 : Harb (fun k => k ≠ L) bo (W.setCell ⟨L, 0, none⟩ (.int .i64 (P.lim h a))) ((W.setCell ⟨L, 0, none⟩ (.int .i64 (P.lim h a))).setCell ⟨L, 1, none⟩ (.int .i64 (P.lim h b))) := Harb.setCell _ b1 (fun e => no e.symm) (by simp) _
      have hh := h1.trans h2
      have hs := hh.size
      have L0 := ht.l0
      have L1 := ht.l1
      obtain ⟨e1, f1⟩ := hh.same bh nh ht.bh_lt ht.fh
      obtain ⟨e2, f2⟩ := hh.same bg ng ht.bg_lt ht.fg
      obtain ⟨e3, f3⟩ := hh.same br nr ht.br_lt ht.fr
      obtain ⟨e4, f4⟩ := hh.same bY nY ht.bY_lt ht.fY
      have fL : Free bo ((W.setCell ⟨L, 0, none⟩ (.int .i64 (P.lim h a))).setCell ⟨L, 1, none⟩ (.int .i64 (P.lim h b))) L := by
        intro v hv
        refine ht.fL v ?_
        rw [World.cell?_setCell_other, World.cell?_setCell_other] at hv
        · exact hv
        · intro e; exact no (by cases e <;> rfl)
        · intro e; exact no (by cases e <;> rfl)
      have z0 : ((W.setCell ⟨L, 0, none⟩ (.int .i64 (P.lim h a))).setCell ⟨L, 1, none⟩ (.int .i64 (P.lim h b))).frozen? ⟨L, 0, none⟩ = false := by rw [World.frozen?_setCell, World.frozen?_setCell]; exact ht.z0
      have z1 : ((W.setCell ⟨L, 0, none⟩ (.int .i64 (P.lim h a))).setCell ⟨L, 1, none⟩ (.int .i64 (P.lim h b))).frozen? ⟨L, 1, none⟩ = false := by rw [World.frozen?_setCell, World.frozen?_setCell]; exact ht.z1
      have l0 : ((W.setCell ⟨L, 0, none⟩ (.int .i64 (P.lim h a))).setCell ⟨L, 1, none⟩ (.int .i64 (P.lim h b))).cell? ⟨L, 0, none⟩ = some (.int .i64 (P.lim h a)) := by
        rw [World.cell?_setCell_other]
        · exact World.cell?_setCell_same' _ _ _ (by rw [L0]; rfl)
        · intro e; cases e
      have l1 : ((W.setCell ⟨L, 0, none⟩ (.int .i64 (P.lim h a))).setCell ⟨L, 1, none⟩ (.int .i64 (P.lim h b))).cell? ⟨L, 1, none⟩ = some (.int .i64 (P.lim h b)) := by
        refine World.cell?_setCell_same' _ _ _ ?_
        rw [World.cell?_setCell_other]
        · rw [L1]; rfl
        · intro e; cases e
      exact ⟨Nat.lt_of_lt_of_le ht.bo_lt hs, Nat.lt_of_lt_of_le ht.bh_lt hs, Nat.lt_of_lt_of_le ht.bg_lt hs, Nat.lt_of_lt_of_le ht.br_lt hs, Nat.lt_of_lt_of_le ht.bY_lt hs, Nat.lt_of_lt_of_le ht.L_lt hs,
        (World.cell?_of_block (a := ⟨bh, 0, none⟩) e1).trans ht.bhv, (World.cell?_of_block (a := ⟨bg, 0, none⟩) e2).trans ht.bgv, (World.cell?_of_block (a := ⟨br, 0, none⟩) e3).trans ht.brv, (World.cell?_of_block (a := ⟨bY, 0, none⟩) e4).trans ht.bYv,
        l0, l1, z0, z1, f1, f2, f3, f4, fL⟩
    have s2 := s1.harb (Harb.alloc D s1.bo_lt (.cells #[.int .i64 (P.lim h a), .int .i64 (P.lim h b)] 98)) d1 d2 d3 d4 d5
    have j0 := hJs _ _ 0 (.int .i64 (P.lim h a)) hJ ht.fL
    have f0 : Free bo (W.setCell ⟨L, 0, none⟩ (.int .i64 (P.lim h a))) L := by
      intro v hv
      refine ht.fL v ?_
      rw [World.cell?_setCell_other] at hv
      · exact hv
      · intro e; exact no (by cases e; rfl)
    have j1 := hJa _ _ (.cells #[.int .i64 (P.lim h a), .int .i64 (P.lim h b)] 98) (hJs _ _ 1 (.int .i64 (P.lim h b)) j0 f0)
    have hy := hY pre (P.lim h a, P.lim h b) _ j1 hx
    have hne : (P.lim h a == (lastP pre).1 && P.lim h b == (lastP pre).2) = false := by
      rw [Bool.eq_false_iff]; intro hc; apply hp
      simp only [Bool.and_eq_true, beq_iff_eq] at hc
      exact Prod.ext hc.1.symm hc.2.symm
    refine (put_new F n hf hro bh L bY l a b h _ _ (lastP pre).1 (lastP pre).2 W (lim_cases h a) (lim_cases h b) hne ht.bhv ht.l0 ht.l1 ht.bYv ht.z0 ht.z1 ht.L_lt ht.bY_lt nY hy (fun e w' hr => ⟨true, hr.1⟩) hn).mono ?_
    rintro e w' ⟨rfl, hj, hh⟩
    exact ⟨rfl, hj, s2.harb hh d1 d2 d3 d4 d5⟩

/-- the pairs of a gap, as they come -/
def ptP (c h : Int) (a : Nat) : Int × Int := (P.lim h a, P.lim h (c - 1 - a))
def rawP (c h : Nat) (full : Bool) : List (Int × Int) :=
  if full then (List.range (min c h)).map (ptP c h) ++ (List.range (h + 1)).map fun b : Nat => (P.lim h h, P.lim h b)
  else (List.range (min c h)).map (ptP c h) ++ (List.range (c - h)).map fun k => ptP c h (h + k)

theorem adj_step (l : List (Int × Int)) (f : Nat → Int × Int) (k : Nat) : adj (l ++ (List.range (k + 1)).map f) = adjA (adj (l ++ (List.range k).map f)) (f k) := by
  rw [List.range_succ, List.map_append, ← List.append_assoc]; exact adj_snoc _ _
theorem adj_sub (l r : List (Int × Int)) (f : Nat → Int × Int) (k m : Nat) (h : k < m) : adjA (adj (l ++ (List.range k).map f)) (f k) <+: adj (l ++ (List.range m).map f ++ r) := by
  rw [← adj_step]
  generalize hk : k + 1 = k1 at *
  obtain ⟨d, rfl⟩ : ∃ d, m = k1 + d := ⟨m - k1, by omega⟩
  rw [List.range_add, List.map_append, ← List.append_assoc, List.append_assoc _ _ r]
  exact adj_pre _ _

set_option maxRecDepth 10000 in
set_option maxHeartbeats 2000000 in
theorem splits1_in (F : Fence) (n : Nat) (hf : F.fn 138) (hf1 : F.fn 139) (hf2 : F.fn 19) (hro : F.round = none) (hn : 2 ≤ n)
    (hcap : ∀ m r W, CallsIn F m Tryz.prog 19 #[.int .i64 r] W fun e w' => e = .returned (.int .i64 (kap r)) ∧ W = w')
    {bo bh bg br l : Nat} {h c kr : Nat} {r : Int} {xs : List (Int × Int)} {D : Nat → Prop} {J : List (Int × Int) → World → Prop} (W : World)
    (d1 : D bh) (d2 : D bg) (d3 : D br) (d4 : ∀ k, W.heap.size ≤ k → D k) (hbo : bo < W.heap.size) (hbh : bh < W.heap.size) (hbg : bg < W.heap.size) (hbr : br < W.heap.size)
    (hJ : Abides' W.heap.size bo J) (hfr : ∀ k, k = bh ∨ k = bg ∨ k = br ∨ W.heap.size ≤ k → Free bo W k)
    (hY : ∀ pre x W1, J pre W1 → pre ++ [x] <+: xs → YieldAt F (n - 1 - 1) Tryz.prog l #[.int .i64 x.1, .int .i64 x.2] W1 fun e W' => e = .returned (.bool true) ∧ J (pre ++ [x]) W' ∧ Harb D bo W1 W')
    (hh : h ≤ 1048575) (hc : c ≤ 2097151) (hkr : kap r = kr) (hxs : xs = adj (rawP c h (!decide (c < kr)))) (h0 : J [] W)
    (hc1 : W.cell? ⟨bh, 0, none⟩ = some (.int .i64 h)) (hc2 : W.cell? ⟨bg, 0, none⟩ = some (.int .i64 c)) (hc3 : W.cell? ⟨br, 0, none⟩ = some (.int .i64 r)) :
    CallsIn F n Tryz.prog 138 #[.func (.yield l) #[] #[], .pointer (some ⟨bh, 0, none⟩), .pointer (some ⟨bg, 0, none⟩), .pointer (some ⟨br, 0, none⟩)] W
      fun e w' => (∃ v, e = .returned v) ∧ J xs w' := by
  refine callsIn_of_wp Tryz.func138 rfl hf ?_ hro
  simp only [Tryz.ntmps138, List.size_toArray, List.length_cons, List.length_nil, Nat.reduceAdd, Nat.reduceSub, Array.replicate_succ, Array.replicate_zero, List.push_toArray, List.append_toArray, List.nil_append, List.cons_append]
  have hY0 : lastP [] = (-1, -1) := rfl
  obtain ⟨m, hm, hmc⟩ : ∃ m, m = min c h ∧ ((c ≤ h ∧ m = c) ∨ (h < c ∧ m = h)) := ⟨_, rfl, by omega⟩
  have HM := Lib.hid hm
  clear hm
  have hJa : ∀ s A o, J s A → J s (A.alloc o) := fun s A o hj => hJ s A _ none hj (World.grownBy_alloc A o none) (fun r e => by cases e)
  have hJd : ∀ s A, J s A → J s A.drew := fun s A hj => hJ s A A.drew none hj ⟨rfl, rfl, rfl, Nat.le_refl _, fun _ _ _ => rfl⟩ (fun r e => by cases e)
  have hJs : ∀ s A i v, J s A → Free bo A (W.heap.size + 1) → J s (A.setCell ⟨W.heap.size + 1, i, none⟩ v) := fun s A i v hj hf =>
    hJ s A _ (some (W.heap.size + 1)) hj ⟨rfl, rfl, rfl, (KeepsWalks.setCell A _ v).size, fun k _ hk => Below.heap_setCell _ _ _ k (fun e => hk (by rw [e]))⟩ (fun r e => by cases e; exact ⟨by omega, hf⟩)
  have hI0 : It bo bh bg br W.heap.size (W.heap.size + 1) l h c r (lastP []).1 (lastP []).2 ((W.alloc (.cells #[.func (.yield l) #[] #[]] 79)).alloc (.cells #[.int .i64 (-1), .int .i64 (-1)] 98)) := by
    have g1 : Harb (fun _ => True) bo W (W.alloc (.cells #[.func (.yield l) #[] #[]] 79)) := Harb.alloc _ hbo _
    have b1 : bo < (W.alloc (.cells #[.func (.yield l) #[] #[]] 79)).heap.size := by simp; omega
    have g2 : Harb (fun _ => True) bo _ ((W.alloc (.cells #[.func (.yield l) #[] #[]] 79)).alloc (.cells #[.int .i64 (-1), .int .i64 (-1)] 98)) := Harb.alloc _ b1 _
    have g := g1.trans g2
    have fa : ∀ k, Free bo W k → Free bo ((W.alloc (.cells #[.func (.yield l) #[] #[]] 79)).alloc (.cells #[.int .i64 (-1), .int .i64 (-1)] 98)) k := fun k hf =>
      (hf.grown (World.grownBy_alloc _ _ none) hbo (by simp)).grown (World.grownBy_alloc _ _ none) b1 (by simp)
    obtain ⟨e1, f1⟩ := g.same bh trivial hbh (hfr bh (.inl rfl))
    obtain ⟨e2, f2⟩ := g.same bg trivial hbg (hfr bg (.inr (.inl rfl)))
    obtain ⟨e3, f3⟩ := g.same br trivial hbr (hfr br (.inr (.inr (.inl rfl))))
    refine ⟨by simp; omega, by simp; omega, by simp; omega, by simp; omega, by simp; omega, by simp, (World.cell?_of_block (a := ⟨bh, 0, none⟩) e1).trans hc1, (World.cell?_of_block (a := ⟨bg, 0, none⟩) e2).trans hc2, (World.cell?_of_block (a := ⟨br, 0, none⟩) e3).trans hc3, ?_, ?_, ?_, ?_, ?_, f1, f2, f3, fa _ (hfr _ (by omega)), fa _ (hfr _ (by omega))⟩
    all_goals go_simp
  have hJ0 := hJa _ _ (.cells #[.int .i64 (-1), .int .i64 (-1)] 98) (hJa _ _ (.cells #[.func (.yield l) #[] #[]] 79) h0)
  have hput : ∀ (a b : Int) (pre : List (Int × Int)) (A : World), J pre A → It bo bh bg br W.heap.size (W.heap.size + 1) l h c r (lastP pre).1 (lastP pre).2 A → adjA pre (P.lim h a, P.lim h b) <+: xs →
      CallsIn F (n - 1) Tryz.prog 139 #[.int .i64 a, .int .i64 b, .pointer (some ⟨bh, 0, none⟩), .pointer (some ⟨W.heap.size + 1, 0, none⟩), .pointer (some ⟨W.heap.size, 0, none⟩)] A
      fun e w' => e = .returned (.bool true) ∧ J (adjA pre (P.lim h a, P.lim h b)) w' ∧ It bo bh bg br W.heap.size (W.heap.size + 1) l h c r (P.lim h a) (P.lim h b) w' := fun a b pre A hj ht hx =>
    put_step F (n - 1) hf1 hro (by omega) d1 d2 d3 (d4 _ (by omega)) (d4 _ (by omega)) (by omega) (by omega) (by omega) (by omega) (by omega) hJa hJs hY a b pre A hj ht hx
  have HP := Lib.hid hput
  have HI := Lib.hid hI0
  have HJ := Lib.hid hJ0
  have HD := Lib.hid hJd
  clear hput hI0 hJ0 hJd hJa hJs hY hJ hfr
  have cb : bh < W.heap.size ∧ bg < W.heap.size := ⟨hbh, hbg⟩
  have h1n : 1 ≤ n := by omega
  have hl1 : Hid (xs = adj ([] ++ (List.range m).map (ptP c h) ++ if decide (c < kr) then (List.range (c - h)).map fun k => ptP c h (h + k) else (List.range (h + 1)).map fun b : Nat => (P.lim h h, P.lim h b))) := by
    unfold Hid; rw [hxs, HM.out]; unfold rawP
    cases decide (c < kr) <;> simp
  clear hxs
  have hmc' : (c ≤ h ∧ m ≤ c ∧ c ≤ m) ∨ (h < c ∧ m ≤ h ∧ h ≤ m) := by omega
  clear hmc
  rcases hmc' with ⟨hmc, q1, q2⟩ | ⟨hmc, q1, q2⟩
  all_goals
    gi_wp2
    gi_loopw [7, 15] (fun v i wr => ∃ (k : Nat), k ≤ m ∧ i = .int .i64 k ∧ Hid (J (adj ([] ++ (List.range k).map (ptP c h))) wr) ∧ Hid (It bo bh bg br W.heap.size (W.heap.size + 1) l h c r (lastP (adj ([] ++ (List.range k).map (ptP c h)))).1 (lastP (adj ([] ++ (List.range k).map (ptP c h)))).2 wr)) (fun _ i _ => m - (intOf i).toNat)
    case atStart => exact ⟨0, Nat.zero_le _, rfl, HJ, HI⟩
    case round =>
      obtain ⟨k, hk, rfl, hj, hi⟩ := hrel
      by_cases hlt : k < m
      · have hcell := hi.out.bgv
        have HC := Lib.hid (HP.out k (c - 1 - k) _ wr hj.out hi.out (by rw [hl1.out]; exact adj_sub [] _ (ptP c h) k m hlt))
        gi_wp2_with (gi_at_call 139; refine (HC.out).mono ?_; rintro e w' ⟨rfl, hj', hi'⟩)
        go_roundw
        case rel =>
          refine ⟨k + 1, by omega, by go_num, ?_, ?_⟩
          · unfold Hid; rw [adj_step]; exact hj'
          · unfold Hid; rw [adj_step]; rw [adjA_last]; exact hi'
        case measure => simp [intOf]; omega
      · obtain rfl : k = m := by omega
        have k1 := hi.out.bhv
        have k2 := hi.out.bgv
        have k3 := hi.out.brv
        have hmx : Tryz.prog.follows .mixedOrders = true := by kernel_rfl
        by_cases hck : c < kr
        · have HX : Hid (xs = adj (([] ++ (List.range k).map (ptP c h)) ++ (List.range (c - h)).map fun j => ptP c h (h + j))) := by unfold Hid; rw [hl1.out, decide_eq_true hck]; rfl
          have hck' : (c : Int) < (kr : Int) := by omega
          have HJ2 := Lib.hid (HD.out _ _ hj.out)
          have HI2 := Lib.hid hi.out.drew
          clear hj hi HJ HI
          gi_wp2
          gi_region_with_o (gi_at_call 19; refine (hcap _ _ _).mono ?_; rintro e w' ⟨rfl, rfl⟩; rw [hkr])
          all_goals
            gi_wp2
            gi_loopw [8] (fun v w2 => ∃ (j : Nat), j ≤ c - h ∧ v = .int .i64 ((h + j : Nat) : Int) ∧ Hid (J (adj (([] ++ (List.range k).map (ptP c h)) ++ (List.range j).map fun j => ptP c h (h + j))) w2) ∧ Hid (It bo bh bg br W.heap.size (W.heap.size + 1) l h c r (lastP (adj (([] ++ (List.range k).map (ptP c h)) ++ (List.range j).map fun j => ptP c h (h + j)))).1 (lastP (adj (([] ++ (List.range k).map (ptP c h)) ++ (List.range j).map fun j => ptP c h (h + j)))).2 w2)) (fun v _ => c - (intOf v).toNat)
            case atStart => exact ⟨0, Nat.zero_le _, rfl, by simpa using HJ2, by simpa using HI2⟩
            case round =>
              obtain ⟨j, hjl, rfl, hj2, hi2⟩ := hrel
              have g1 := hi2.out.bhv
              have g2 := hi2.out.bgv
              by_cases hlt : j < c - h
              · have hlt' : ((h + j : Nat) : Int) < (c : Int) := by omega
                have HC := Lib.hid (HP.out ((h + j : Nat) : Int) (c - 1 - ((h + j : Nat) : Int)) _ _ hj2.out hi2.out (by
                  rw [HX.out]; have := adj_sub ([] ++ (List.range k).map (ptP c h)) [] (fun j => ptP c h (h + j)) j (c - h) hlt; simpa [ptP] using this))
                have hb1 : ((h + j : Nat) : Int) ≤ 2097151 := by omega
                first
                  | (exfalso; omega)
                  | (gi_wp2_with (gi_at_call 139; refine (HC.out).mono ?_; rintro e w' ⟨rfl, hj', hi'⟩)
                     go_roundw
                     case rel =>
                       refine ⟨j + 1, by omega, by go_num, ?_, ?_⟩
                       · unfold Hid; rw [adj_step]; exact hj'
                       · unfold Hid; rw [adj_step]; rw [adjA_last]; exact hi'
                     case measure => simp [intOf]; omega)
              · have hlt' : ¬ ((h + j : Nat) : Int) < (c : Int) := by omega
                gi_wp2
                refine bodyPost_ret (results_none rfl _ _ _) rfl ?_
                have hj3 := hj2.out
                rw [show j = c - h by omega, ← HX.out] at hj3
                exact ⟨⟨_, rfl⟩, hj3⟩
        · have HX : Hid (xs = adj (([] ++ (List.range k).map (ptP c h)) ++ (List.range (h + 1)).map fun j : Nat => (P.lim h h, P.lim h j))) := by unfold Hid; rw [hl1.out, decide_eq_false hck]; rfl
          have hck' : ¬ (c : Int) < (kr : Int) := by omega
          have HJ2 := Lib.hid (HD.out _ _ hj.out)
          have HI2 := Lib.hid hi.out.drew
          clear hj hi HJ HI
          gi_wp2
          gi_region_with_o (gi_at_call 19; refine (hcap _ _ _).mono ?_; rintro e w' ⟨rfl, rfl⟩; rw [hkr])
          all_goals
            gi_wp2
            gi_loopw [9, 47] (fun _ v w2 => ∃ (j : Nat), j ≤ h + 1 ∧ v = .int .i64 (j : Int) ∧ Hid (J (adj (([] ++ (List.range k).map (ptP c h)) ++ (List.range j).map fun j : Nat => (P.lim h h, P.lim h j))) w2) ∧ Hid (It bo bh bg br W.heap.size (W.heap.size + 1) l h c r (lastP (adj (([] ++ (List.range k).map (ptP c h)) ++ (List.range j).map fun j : Nat => (P.lim h h, P.lim h j)))).1 (lastP (adj (([] ++ (List.range k).map (ptP c h)) ++ (List.range j).map fun j : Nat => (P.lim h h, P.lim h j)))).2 w2)) (fun _ v _ => h + 1 - (intOf v).toNat)
            case atStart => exact ⟨0, Nat.zero_le _, rfl, by simpa using HJ2, by simpa using HI2⟩
            case round =>
              obtain ⟨j, hjl, rfl, hj2, hi2⟩ := hrel
              have g1 := hi2.out.bhv
              have g2 := hi2.out.bgv
              by_cases hlt : j < h + 1
              · have hlt' : (j : Int) < (h : Int) + 1 := by omega
                have HC := Lib.hid (HP.out (h : Int) (j : Int) _ _ hj2.out hi2.out (by
                  rw [HX.out]; have := adj_sub ([] ++ (List.range k).map (ptP c h)) [] (fun j : Nat => (P.lim h h, P.lim h j)) j (h + 1) hlt; simpa using this))
                gi_wp2_with (gi_at_call 139; refine (HC.out).mono ?_; rintro e w' ⟨rfl, hj', hi'⟩)
                go_roundw
                case rel =>
                  refine ⟨j + 1, by omega, by go_num, ?_, ?_⟩
                  · unfold Hid; rw [adj_step]; exact hj'
                  · unfold Hid; rw [adj_step]; rw [adjA_last]; exact hi'
                case measure => simp [intOf]; omega
              · have hlt' : ¬ (j : Int) < (h : Int) + 1 := by omega
                gi_wp2
                refine bodyPost_end (results_none rfl _ _ _) rfl ?_
                have hj3 := hj2.out
                rw [show j = h + 1 by omega, ← HX.out] at hj3
                exact ⟨⟨_, rfl⟩, hj3⟩

end Go.Proofs.YtkkoooagamadjaaGreatDoor

namespace Go.Proofs.YtkkoooagamadjaaGreatDoor
open Go.RowKit Go.Shelf
attribute [local go_sem] Oper.semAt_some

theorem room_of_none {F : Fence} (hd : F.depth = none) (k : Nat) : F.room k := fun d h => by rw [hd] at h; cases h
theorem round_any {F : Fence} (hd : F.depth = none) {m m' : Nat} {P : Program} {l : Nat} {f : FuncId} {tmps : Array Value} {assign body : Code} {w : World} {R : Ending → World → Prop}
    (h : RoundIn F m P l f tmps assign body w R) : RoundIn F m' P l f tmps assign body w R := ⟨h.1, fun c cs _ => h.2 c cs (room_of_none hd _)⟩
theorem yield_any {F : Fence} (hd : F.depth = none) {m : Nat} (m' : Nat) {P : Program} {l : Nat} {args : Array Value} {W : World} {R : Ending → World → Prop} (h : YieldAt F m P l args W R) : YieldAt F m' P l args W R := by
  obtain ⟨fn, tmps, assign, body, hy, hR⟩ := h
  exact ⟨fn, tmps, assign, body, hy, round_any hd hR⟩

set_option maxHeartbeats 1000000 in
/-- the function that makes the iterator -/
theorem splits_in (F : Fence) (n : Nat) (hf : F.fn 111) (hf2 : F.fn 19) (hro : F.round = none) (hn : 1 ≤ n)
    (hcap : ∀ m r W, CallsIn F m Tryz.prog 19 #[.int .i64 r] W fun e w' => e = .returned (.int .i64 (kap r)) ∧ W = w')
    (c r : Int) (hr : -9223372036854775807 ≤ r) (hr' : r ≤ 9223372036854775807) (w : World) :
    CallsIn F n Tryz.prog 111 #[.int .i64 c, .int .i64 r] w fun e w' =>
      e = .returned (.func (.func 138) #[] #[.pointer (some ⟨w.heap.size + 2, 0, none⟩), .pointer (some ⟨w.heap.size, 0, none⟩), .pointer (some ⟨w.heap.size + 1, 0, none⟩)]) ∧
        w' = ((w.alloc (.cells #[.int .i64 c] 3)).alloc (.cells #[.int .i64 r] 3)).alloc (.cells #[.int .i64 (kap (r - 1))] 3) := by
  refine callsIn_of_wp Tryz.func111 rfl hf ?_ hro
  simp only [Tryz.ntmps111, List.size_toArray, List.length_cons, List.length_nil, Nat.reduceAdd, Nat.reduceSub, Array.replicate_succ, Array.replicate_zero, List.push_toArray, List.append_toArray, List.nil_append, List.cons_append]
  gi_wp2_with (gi_at_call 19; refine (hcap _ _ _).mono ?_; rintro e w' ⟨rfl, rfl⟩)
  go_ret
  exact ⟨rfl, rfl⟩

/-- the iterator's contract -/
theorem splits_seq (F : Fence) (n : Nat) (hf : F.fn 138) (hf1 : F.fn 139) (hf2 : F.fn 19) (hro : F.round = none) (hd : F.depth = none) (hn : 2 ≤ n)
    (hcap : ∀ m r W, CallsIn F m Tryz.prog 19 #[.int .i64 r] W fun e w' => e = .returned (.int .i64 (kap r)) ∧ W = w')
    {B bo bh bg br : Nat} {h c kr : Nat} {r : Int} (w : World) (b1 : B ≤ bh) (b2 : B ≤ bg) (b3 : B ≤ br) (l1 : bh < w.heap.size) (l2 : bg < w.heap.size) (l3 : br < w.heap.size)
    (hh : h ≤ 1048575) (hc : c ≤ 2097151) (hkr : kap r = kr)
    (hc1 : w.cell? ⟨bh, 0, none⟩ = some (.int .i64 h)) (hc2 : w.cell? ⟨bg, 0, none⟩ = some (.int .i64 c)) (hc3 : w.cell? ⟨br, 0, none⟩ = some (.int .i64 r)) :
    SeqSt F n Tryz.prog 138 #[.pointer (some ⟨bh, 0, none⟩), .pointer (some ⟨bg, 0, none⟩), .pointer (some ⟨br, 0, none⟩)] (fun p : Int × Int => #[.int .i64 p.1, .int .i64 p.2]) B bo (adj (rawP c h (!decide (c < kr)))) w := by
  intro l J W hB hJ hJb hfr hY h0
  have hs := hB.size
  refine splits1_in F n hf hf1 hf2 hro hn hcap W (D := fun k => (B ≤ k ∧ k < w.heap.size) ∨ W.heap.size ≤ k) (.inl ⟨b1, l1⟩) (.inl ⟨b2, l2⟩) (.inl ⟨b3, l3⟩) (fun k hk => .inr hk) (hJb _ _ h0).2.1 (by omega) (by omega) (by omega) hJ ?_ ?_ hh hc hkr rfl h0
    ((hB.cell (p := ⟨bh, 0, none⟩) l1).trans hc1) ((hB.cell (p := ⟨bg, 0, none⟩) l2).trans hc2) ((hB.cell (p := ⟨br, 0, none⟩) l3).trans hc3)
  · rintro k (rfl | rfl | rfl | hk)
    · exact hfr _ b1
    · exact hfr _ b2
    · exact hfr _ b3
    · exact (hJb _ _ h0).2.2.2 k hk
  · intro pre x W1 hj hp
    exact yield_any hd _ (hY pre x W1 hj hp)

end Go.Proofs.YtkkoooagamadjaaGreatDoor
