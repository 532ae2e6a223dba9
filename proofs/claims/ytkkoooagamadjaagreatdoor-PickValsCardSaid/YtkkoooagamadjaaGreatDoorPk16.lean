/- Splits of package halve, where more writes are left than count. Contracts of Splits and Outer of package halve, and of Has, True, Splits, Same of warderref21. -/
import Derived.Test.YtkkoooagamadjaaGreatDoorPk04
import Derived.Test.YtkkoooagamadjaaGreatDoorPk15
import Derived.Test.YtkkoooagamadjaaGreatDoorPk06

namespace Go.Proofs.YtkkoooagamadjaaGreatDoor
open Go.RowKit Go.Shelf
open Go.ChangeMaps (setBlock heap_setBlock_same heap_setBlock_other frozen?_setBlock)
attribute [local go_sem] Oper.semAt_some

set_option maxRecDepth 10000 in
set_option maxHeartbeats 8000000 in
theorem splitsB_in (F : Fence) (hft : ∀ f, F.fn f) (hro : F.round = none) (hd : F.depth = none) (n : Nat) (hn : 6 ≤ n)
    (hcap : ∀ m r W, CallsIn F m Tryz.prog 19 #[.int .i64 r] W fun e w' => e = .returned (.int .i64 (kap r)) ∧ W = w')
    (hclip : ∀ m g r W, CallsIn F m Tryz.prog 112 #[.int .i64 g, .int .i64 r] W fun e w' => e = .returned (.int .i64 (klip g r)) ∧ W = w')
    (g r : Int) (w : World) (hr : 1 ≤ r) (hr2 : r ≤ 9223372036854775807) (hg : 1 ≤ g) (hrr : 20 < r) (c h kr : Nat) (hc : klip g r = c) (hh : kap (20 - 1) = h) (hkr : kap 20 = kr) (hh2 : h ≤ 1048575) (hc2 : c ≤ 2097151)
    (xs : List (Int × Int)) (hxs : xs = adj (rawP c h (!decide (c < kr)))) (hlen : xs.length ≤ 8388608) (hok : ∀ p ∈ xs, okP p)
    (hsort : ∀ m v l W, W.ownsRow w.heap.size 98 2 v l.length (cellsP l) → l.length ≤ 8388608 → CallsIn F m Tryz.prog 113 #[v] W fun e W' => e = .returned (.tuple #[]) ∧ ∃ l', SortP l l' ∧ W'.ownsRow w.heap.size 98 2 v l.length (cellsP l') ∧ W.grownBy W' v.ownBlock) :
    CallsIn F n Tryz.prog 84 #[.int .i64 g, .int .i64 r] w fun e w' => ∃ v l', e = .returned v ∧ SortP (firstsP xs) l' ∧ w'.ownsRow w.heap.size 98 2 v (firstsP xs).length (cellsP l') ∧ Below w.heap.size w w' := by
  have hf0 := hft 84
  have hf1 := hft 111
  have hf2 := hft 112
  have hf3 := hft 113
  have h1n : 1 ≤ n := by omega
  have h1n1 : 1 ≤ n - 1 - 1 := by omega
  have hmm := @run_makeMap Tryz.prog
  obtain ⟨i0, hi, hz0, hz1, hz2⟩ := info_parts info_pair
  have HT := Lib.hid hft
  clear hft
  have HXS := Lib.hid hxs
  clear hxs
  refine callsIn_of_wp_marks Tryz.func84 rfl hf0 ?_ hro
  simp only [Tryz.ntmps84, List.size_toArray, List.length_cons, List.length_nil, Nat.reduceAdd, Nat.reduceSub, Array.replicate_succ, Array.replicate_zero, List.push_toArray, List.append_toArray, List.nil_append, List.cons_append]
  gi_wp2_with (first
    | (gi_at_call 112; refine (hclip _ _ _ _).mono ?_; rintro e w' ⟨rfl, rfl⟩; rw [hc])
    | (gi_at_call 111; refine (splits_in F _ hf1 (HT.out _) hro (by omega) hcap _ _ (by omega) (by omega) _).mono ?_; rintro e w' ⟨rfl, rfl⟩; rw [hh]))
  have w0s : ((((((w.alloc (.cells #[.slice none 0 0] 96)).alloc (.map #[] 0)).alloc (.cells #[.map (some (w.heap.size + 1))] 135)).alloc (.cells #[.int .i64 c] 3)).alloc (.cells #[.int .i64 20] 3)).alloc (.cells #[.int .i64 h] 3)).heap.size = w.heap.size + 6 := by simp
  have m0 : Mid w [] (.slice none 0 0) #[] 0 (((w.alloc (.cells #[.slice none 0 0] 96)).alloc (.map #[] 0)).alloc (.cells #[.map (some (w.heap.size + 1))] 135)) := by
    have b1 := ((Boxed.new w 96 (.slice none 0 0)).alloc (.map #[] 0)).alloc (.cells #[.map (some (w.heap.size + 1))] 135)
    have b2 := Boxed.new ((w.alloc (.cells #[.slice none 0 0] 96)).alloc (.map #[] 0)) 135 (.map (some (w.heap.size + 1)))
    have b3 := World.alloc_heap_new (w.alloc (.cells #[.slice none 0 0] 96)) (.map #[] 0)
    simp only [World.size_alloc] at b2 b3
    refine ⟨b1, World.ownsRow_nil _ _ _ _, (Below.heap_alloc _ _ _ (by simp)).trans b3, b2, ⟨MapKept.stamped_empty 0, by simp, by simp, by simp⟩, (((Below.refl _ w).alloc (Nat.le_refl _) _).alloc (by simp) _).alloc (by simp; omega) _⟩
  have m1 : Mid w [] (.slice none 0 0) #[] 0 ((((((w.alloc (.cells #[.slice none 0 0] 96)).alloc (.map #[] 0)).alloc (.cells #[.map (some (w.heap.size + 1))] 135)).alloc (.cells #[.int .i64 c] 3)).alloc (.cells #[.int .i64 20] 3)).alloc (.cells #[.int .i64 h] 3)) :=
    ((m0.grown (World.grownBy_alloc _ _ none) (fun _ e => by cases e)).grown (World.grownBy_alloc _ _ none) (fun _ e => by cases e)).grown (World.grownBy_alloc _ _ none) (fun _ e => by cases e)
  have c1 : ((((((w.alloc (.cells #[.slice none 0 0] 96)).alloc (.map #[] 0)).alloc (.cells #[.map (some (w.heap.size + 1))] 135)).alloc (.cells #[.int .i64 c] 3)).alloc (.cells #[.int .i64 20] 3)).alloc (.cells #[.int .i64 h] 3)).cell? ⟨w.heap.size + 3, 0, none⟩ = some (.int .i64 c) := by go_simp
  have c2 : ((((((w.alloc (.cells #[.slice none 0 0] 96)).alloc (.map #[] 0)).alloc (.cells #[.map (some (w.heap.size + 1))] 135)).alloc (.cells #[.int .i64 c] 3)).alloc (.cells #[.int .i64 20] 3)).alloc (.cells #[.int .i64 h] 3)).cell? ⟨w.heap.size + 4, 0, none⟩ = some (.int .i64 20) := by go_simp
  have c3 : ((((((w.alloc (.cells #[.slice none 0 0] 96)).alloc (.map #[] 0)).alloc (.cells #[.map (some (w.heap.size + 1))] 135)).alloc (.cells #[.int .i64 c] 3)).alloc (.cells #[.int .i64 20] 3)).alloc (.cells #[.int .i64 h] 3)).cell? ⟨w.heap.size + 5, 0, none⟩ = some (.int .i64 h) := by go_simp
  obtain ⟨w0, hw0⟩ : ∃ w0, (((((w.alloc (.cells #[.slice none 0 0] 96)).alloc (.map #[] 0)).alloc (.cells #[.map (some (w.heap.size + 1))] 135)).alloc (.cells #[.int .i64 c] 3)).alloc (.cells #[.int .i64 20] 3)).alloc (.cells #[.int .i64 h] 3) = w0 := ⟨_, rfl⟩
  rw [hw0] at w0s m1 c1 c2 c3 ⊢
  clear hw0 m0
  have HS := splits_seq F (n - 1) (HT.out _) (HT.out _) (HT.out _) hro hd (by omega) hcap (B := w.heap.size + 3) (bo := w.heap.size) (bh := w.heap.size + 5) (bg := w.heap.size + 3) (br := w.heap.size + 4) w0 (by omega) (by omega) (by omega) (by omega) (by omega) (by omega) hh2 hc2 hkr c3 c1 c2
  rw [← HXS.out] at HS
  refine wpIn_rangeFunc_st hro h1n (gf := 138) (lb := #[.pointer (some ⟨w.heap.size + 5, 0, none⟩), .pointer (some ⟨w.heap.size + 3, 0, none⟩), .pointer (some ⟨w.heap.size + 4, 0, none⟩)]) rfl (HT.out _) (enters_of Tryz.func138 (by kernel_rfl) rfl)
    (w.heap.size + 3) w.heap.size HS (Below.refl _ _) (fun _ => rfl) (by omega) (by omega) ?free
    (fun pre W => ∃ v es clock, Mid w pre v es clock W) ?abides ?frees ⟨_, _, _, m1⟩ ?act ?assign ?body ?done
  case assign =>
    intro l x W K hK
    gi_wp2
    exact hK
  case free =>
    intro k _ u hu e
    rw [m1.box.cell] at hu
    cases hu
    simp [Value.ownBlock] at e
  case abides =>
    rintro s A A' row ⟨v, es, clock, m⟩ hg hr
    exact ⟨v, es, clock, m.grown hg (fun r e => ⟨by have := (hr r e).1; omega, (hr r e).2 v m.box.cell⟩)⟩
  case frees =>
    rintro s A ⟨v, es, clock, m⟩ r hr u hu e
    rw [m.box.cell] at hu
    cases hu
    have := (m.own.lt r e).2
    omega
  case body =>
    rintro l pre x W hsz ⟨v, es, clock, m⟩ hpre
    have hxm : x ∈ xs := hpre.subset (by simp)
    have hpl : pre.length + 1 ≤ xs.length := by have := hpre.length_le; simpa using this
    obtain ⟨v0, st, es1, es2, ck1, ck2, k1, k2, k3, k4, k5, hS2⟩ := seen_step (b := w.heap.size + 1) m.seen (hok x hxm)
    have hcl := cntP_le pre x
    have a0 : W.drew.heap[w.heap.size + 1]? = some (.map es clock) := m.map
    have a1 := heap_setBlock_same a0 (.map es1 ck1)
    have a2 := heap_setBlock_same a1 (.map es2 ck2)
    have hx1 : pairV x = .agg #[.int .i64 x.1, .int .i64 x.2] := rfl
    have e1 := k1 W.drew a0
    have e2 := k2 W.drew a0
    have e3 := k3 _ a1
    have e4 := k4 _ a1
    have e5 := k5 _ a2
    have g1 : W.drew.grownBy (setBlock W.drew (w.heap.size + 1) (.map es1 ck1)) (some (w.heap.size + 1)) := setBlock_grown a0
    have g2 : (setBlock W.drew (w.heap.size + 1) (.map es1 ck1)).grownBy (setBlock (setBlock W.drew (w.heap.size + 1) (.map es1 ck1)) (w.heap.size + 1) (.map es2 ck2)) (some (w.heap.size + 1)) := setBlock_grown a1
    rw [hx1] at e1 e2 e3 e5
    clear k1 k2 k3 k4 k5 hx1
    obtain ⟨W2, hW2⟩ : ∃ W2, setBlock W.drew (w.heap.size + 1) (.map es1 ck1) = W2 := ⟨_, rfl⟩
    rw [hW2] at e2 e3 e4 e5 g1 g2 a1 a2
    obtain ⟨W3, hW3⟩ : ∃ W3, setBlock W2 (w.heap.size + 1) (.map es2 ck2) = W3 := ⟨_, rfl⟩
    rw [hW3] at e4 e5 g2 a2
    clear hW2 hW3
    obtain ⟨q, hq⟩ : ∃ q : Nat, cntP pre x = q := ⟨_, rfl⟩
    rw [hq] at e1 e3 e4 e5 hcl
    have hq2 : q ≤ 8388608 := by omega
    have gd : W.grownBy W.drew none := ⟨rfl, rfl, rfl, Nat.le_refl _, fun _ _ _ => rfl⟩
    have b0 : w.heap.size < W.heap.size := m.box.lt
    have b1 : w.heap.size < W2.heap.size := Nat.lt_of_lt_of_le b0 g1.size
    have hb3 : Harb (fun k => w.heap.size + 3 ≤ k) w.heap.size W W3 :=
      (Harb.of_grown gd b0 (by simp) (fun r e => by cases e)).trans ((Harb.of_grown g1 b0 (by simp) (fun r e => by cases e; omega)).trans (Harb.of_grown g2 b1 (by simp) (fun r e => by cases e; omega)))
    have nm : v.ownBlock ≠ some (w.heap.size + 1) := own_not_map m.own m.map
    have m3 : Boxed W3 w.heap.size 96 v ∧ W3.ownsRow w.heap.size 98 2 v (firstsP pre).length (cellsP (firstsP pre)) ∧ Boxed W3 (w.heap.size + 2) 135 (.map (some (w.heap.size + 1))) ∧ Below w.heap.size w W3 :=
      ⟨((m.box.kept gd (by simp)).kept g1 (by simp)).kept g2 (by simp), ((m.own.kept gd (by cases v.ownBlock <;> simp)).kept g1 (.inr nm)).kept g2 (.inr nm), ((m.mbox.kept gd (by simp)).kept g1 (by simp)).kept g2 (by simp),
        ((m.below.grown gd m.below.size (fun r e => by cases e)).grown g1 (by have := m.below.size; exact this) (fun r e => by cases e; omega)).grown g2 (by have := m.below.size; omega) (fun r e => by cases e; omega)⟩
    obtain ⟨b3, o3, mb3, bl3⟩ := m3
    have hfl := firstsP_len pre
    have cm : W.cell? ⟨w.heap.size + 1 + 1, 0, none⟩ = some (.map (some (w.heap.size + 1))) := m.mbox.cell
    have cm3 : W3.cell? ⟨w.heap.size + 1 + 1, 0, none⟩ = some (.map (some (w.heap.size + 1))) := mb3.cell
    have co3 := b3.cell
    have cf3 := b3.frozen
    have hmx : Tryz.prog.follows .mixedOrders = true := by kernel_rfl
    have M3 : Mid w pre v es clock W3 → True := fun _ => trivial
    clear M3
    have HB3 := Lib.hid hb3
    have HS2 := Lib.hid hS2
    have HA2 := Lib.hid a2
    have HBL := Lib.hid bl3
    have HB := Lib.hid b3
    have HO := Lib.hid o3
    have HMB := Lib.hid mb3
    have HSE := Lib.hid m.seen
    clear hb3 hS2 a2 bl3 b3 o3 mb3 g1 g2 a0 a1 gd m
    have hwr : IntKind.i64.wrap ((q : Int) + 1) = (q : Int) + 1 := IntWalk.i64_in _ ⟨by omega, by omega⟩
    gi_wp2
    rename_i K aK
    have HK : K { tmps := frE w.heap.size g r 20 c x q st v0, defers := [] } W3 := by
      apply aK
      simp only [frE]
      by_cases hq0 : q = 0
      · have HN := Lib.hid (firstsP_new pre x (by rw [hq]; exact hq0))
        have hqt : ((q : Int) + 1 == 1) = true := by simp; omega
        clear hq hq0
        have hb1 : (firstsP pre).length + 1 ≤ maxLen := by unfold maxLen; omega
        have hb2 : ((firstsP pre).length + 1) * 16 ≤ 140737488355328 := by omega
        have hb3 : w.heap.size ≤ W3.heap.size := HBL.out.size
        gi_wp2_with (gi_at_builtin; refine appendIn_at _ rfl _ _ 96 rfl w.heap.size 98 i0 (.agg #[.int .i64 0, .int .i64 0]) 2 16 Tryz.underlying96 hi hz0 hz1 hz2 rfl (by decide) _ _ _ rfl (HO.out.alloc _) ⟨W3.heap.size, 0, none⟩ 1 1 [.int .i64 x.1, .int .i64 x.2] rfl rfl (cell_two_new _ _ _ _) (by simp [Value.oneCell']) hb1 hb2 (by simp; omega) ?_; intro v' w1 hown' hgrow hat; obtain ⟨g', cap', hv'⟩ := ownsRow_succ hown'; obtain ⟨hv1, hv2, hv3⟩ := Mid.app HB.out HO.out HMB.out HBL.out HS2.out HA2.out HN.out hown' hgrow hat; subst hv'; have hc1 := hv1.cell; have hf1 := hv1.frozen; have HV2 := Lib.hid hv2; have HV3 := Lib.hid hv3; clear hv2 hv3 hown' hgrow hat)
        exact ⟨HB3.out.trans HV3.out, _, _, _, HV2.out⟩
      · have HN := Lib.hid (firstsP_old pre x (by rw [hq]; exact hq0))
        have hqt : ((q : Int) + 1 == 1) = false := by simp; omega
        clear hq hq0
        gi_wp2
        exact ⟨HB3.out, v, es2, ck2, ⟨HB.out, by rw [HN.out]; exact HO.out, HA2.out, HMB.out, HS2.out, HBL.out⟩⟩
    clear aK
    gi_region_with_o (fail)
    all_goals exact HK
  case done =>
    rintro D W hD hfD ⟨v, es, clock, m⟩ hK
    have hfl := firstsP_len xs
    have co := m.box.cell
    have hne1 : some w.heap.size ≠ v.ownBlock := m.box.not_row (by decide) m.own
    have hne2 : v.ownBlock ≠ some D := hfD v co
    have hDl : D < W.heap.size := (Array.getElem?_eq_some_iff.1 hK).1
    have hS := Lib.hid (hsort (n - 1) v (firstsP xs) W m.own (by omega))
    have hB := Lib.hid m.box
    have hM := Lib.hid m.below
    clear m
    gi_wp2_with (gi_at_call 113; refine (hS.out).mono ?_; rintro e W4 ⟨rfl, l', hsp, hown, hg4⟩; have hb4 := (hB.out.kept hg4 hne1).cell)
    have hK4 : W4.heap[D]? = some (.deferred (some [])) := (hg4.block D hDl (fun e => hne2 e.symm)).trans hK
    have hbl4 : Below w.heap.size w W4 := hM.out.grown hg4 hM.out.size (fun k e => by have := (hown.lt k e).1; omega)
    refine ⟨by simp, .inl ⟨_, _, rfl, run_takeDeferred hK4, ?_⟩⟩
    exact ⟨_, results_tmp rfl _ _ _, v, l', rfl, hsp, ownsRow_putObj hown _ hK4 rfl, hbl4.grown (grownBy_putObj' W4 D _) hbl4.size (fun k e => by cases e; omega)⟩

end Go.Proofs.YtkkoooagamadjaaGreatDoor

namespace Go.Proofs.YtkkoooagamadjaaGreatDoor
open Go.RowKit

set_option maxHeartbeats 400000 in
/-- Splits of package halve, for all whole numbers of 64 bits -/
theorem splits_any (g r : Int) (w : World) (hr2 : r ≤ 9223372036854775807) :
    Calls Tryz.prog 84 #[.int .i64 g, .int .i64 r] w fun e w' => ∃ v, e = .returned v ∧ w'.ownsRow w.heap.size 98 2 v (splP g r).length (cellsP (splP g r)) ∧ Below w.heap.size w w' := by
  by_cases hr : r < 1
  · have H : Hid (splP g r = []) := by unfold Hid splP; rw [if_pos (.inl hr)]
    have hm := @run_makeMap Tryz.prog
    go_enter Tryz.func84, Tryz.ntmps84
    go_wp2
    go_ret
    exact ⟨_, rfl, by rw [H.out]; exact World.ownsRow_nil _ _ _ _, (Below.refl _ w).alloc (Nat.le_refl _) _⟩
  · by_cases hg : g < 1
    · have H : Hid (splP g r = []) := by unfold Hid splP; rw [if_pos (.inr hg)]
      have hm := @run_makeMap Tryz.prog
      have hr' : 1 ≤ r := by omega
      go_enter Tryz.func84, Tryz.ntmps84
      go_wp2
      go_ret
      exact ⟨_, rfl, by rw [H.out]; exact World.ownsRow_nil _ _ _ _, (Below.refl _ w).alloc (Nat.le_refl _) _⟩
    · obtain ⟨b0, b1, b2⟩ := klip_bd g r
      obtain ⟨c, hc⟩ : ∃ c : Nat, klip g r = c := ⟨(klip g r).toNat, by omega⟩
      have hh := kap_le (min r 20 - 1)
      obtain ⟨h, hhe⟩ : ∃ h, kap (min r 20 - 1) = h := ⟨_, rfl⟩
      obtain ⟨kr, hkr⟩ : ∃ kr, kap (min r 20) = kr := ⟨_, rfl⟩
      rw [hhe] at hh
      have hlen := Nat.le_trans (adj_len (rawP c h (!decide (c < kr)))) (rawP_len _ _ _)
      have hok : ∀ p ∈ adj (rawP c h (!decide (c < kr))), okP p := fun p hp => by
        rw [adj_mem _ (fun hc => by obtain ⟨u, v, _, _, e⟩ := raw_box _ _ _ _ hc; simp at e)] at hp
        obtain ⟨u, v, hu, hv, rfl⟩ := raw_box _ _ _ _ hp
        exact ⟨WalkArith.wf_i64 ⟨by dsimp only; omega, by dsimp only; omega⟩, WalkArith.wf_i64 ⟨by dsimp only; omega, by dsimp only; omega⟩⟩
      have hsort : ∀ m v l W, W.ownsRow w.heap.size 98 2 v l.length (cellsP l) → l.length ≤ 8388608 → CallsIn Fence.wide m Tryz.prog 113 #[v] W fun e W' => e = .returned (.tuple #[]) ∧ ∃ l', SortP l l' ∧ W'.ownsRow w.heap.size 98 2 v l.length (cellsP l') ∧ W.grownBy W' v.ownBlock :=
        fun m v l W ho hl => callsIn_wide.2 (sorted_any w.heap.size v l W ho hl)
      by_cases h20 : r ≤ 20
      · have em : min r 20 = r := by omega
        have hh' := hhe; have hkr' := hkr
        rw [em] at hh' hkr'
        refine (callsIn_wide (n := 6)).1 ((splitsA_in Fence.wide (fun _ => trivial) rfl rfl 6 (by omega) capIn clipIn g r w (by omega) hr2 (by omega) h20 c h kr hc hh' hkr' hh (by omega) _ rfl (by omega) hok hsort).mono ?_)
        rintro e w' ⟨v, l', rfl, hs, ho, hb⟩
        have e1 := splP_raw (by omega) (by omega) hc hhe hkr hs
        subst e1
        refine ⟨v, rfl, ?_, hb⟩
        rw [hs.1.length_eq]; exact ho
      · have em : min r 20 = 20 := by omega
        have hh' := hhe; have hkr' := hkr
        rw [em] at hh' hkr'
        refine (callsIn_wide (n := 6)).1 ((splitsB_in Fence.wide (fun _ => trivial) rfl rfl 6 (by omega) capIn clipIn g r w (by omega) hr2 (by omega) (by omega) c h kr hc hh' hkr' hh (by omega) _ rfl (by omega) hok hsort).mono ?_)
        rintro e w' ⟨v, l', rfl, hs, ho, hb⟩
        have e1 := splP_raw (by omega) (by omega) hc hhe hkr hs
        subst e1
        refine ⟨v, rfl, ?_, hb⟩
        rw [hs.1.length_eq]; exact ho

theorem owns_slice {w : World} {base : Nat} {e : TypeId} {sz : Nat} {v : Value} {n : Nat} {xs : List Value} (h : w.ownsRow base e sz v n xs) (hn : 0 < n) : ∃ g cap, v = .slice (some ⟨g, 0, none⟩) n cap := by
  rcases h.2 with ⟨_, h0⟩ | ⟨g, cap, cur, hv, _⟩
  · omega
  · exact ⟨g, cap, hv⟩

set_option maxHeartbeats 1000000 in
theorem rpHas_any (base : Nat) (v : Value) (l : List (Int × Int)) (a b : Int) (w : World) (hown : w.ownsRow base 98 2 v l.length (cellsP l)) (hl : l.length ≤ 8388608) :
    Calls Tryz.prog 101 #[v, .int .i64 a, .int .i64 b] w fun e w' => e = .returned (.bool (decide ((a, b) ∈ l))) ∧ w = w' := by
  by_cases h0 : l.length = 0
  · have hl0 : l = [] := List.length_eq_zero_iff.1 h0
    subst hl0
    rcases hown.2 with ⟨rfl, _⟩ | ⟨g, cap, cur, rfl, _⟩
    all_goals
      go_enter Tryz.func101, Tryz.ntmps101
      go_wp2
      refine wp_loop_rounds 1 ?_
      rw [rounds_succ]
      go_wp2
      go_ret
      exact ⟨ret_bool (by simp), rfl⟩
  · obtain ⟨g, cap, rfl⟩ := owns_slice hown (by omega)
    obtain ⟨n, hn⟩ : ∃ n, l.length = n := ⟨_, rfl⟩
    have HN := Lib.hid hn
    rw [hn] at hown hl h0 ⊢
    have HW := Lib.hid hown
    clear hn hown
    go_enter Tryz.func101, Tryz.ntmps101
    go_wp2
    go_loop [7] (fun i => ∃ k : Nat, k ≤ n ∧ i = .int .i64 k ∧ Hid ((a, b) ∉ l.take k)) (fun i => n - (intOf i).toNat)
    case atStart => exact ⟨0, Nat.zero_le _, rfl, by unfold Hid; simp⟩
    case round =>
      obtain ⟨k, hk, rfl, HM⟩ := hrel
      by_cases hlt : k < n
      · have hkl : k < l.length := by rw [HN.out]; exact hlt
        obtain ⟨x, hx⟩ : ∃ x, l[k]? = some x := ⟨_, List.getElem?_eq_getElem hkl⟩
        have cx := cellsP_get _ _ _ hx
        have c1 : w.cell? ⟨g, k * 2, none⟩ = some (.int .i64 x.1) := by rw [HW.out.cellAt _ (by omega)]; exact cx.1
        have c2 : w.cell? ⟨g, k * 2 + 1, none⟩ = some (.int .i64 x.2) := by rw [HW.out.cellAt _ (by omega)]; exact cx.2
        have p1 : (k : Int) < (n : Int) := by omega
        have HX := Lib.hid hx
        clear cx hx
        have next : ¬ (x.1 = a ∧ x.2 = b) → Hid ((a, b) ∉ l.take (k + 1)) := fun hne => by
          unfold Hid
          rw [List.take_succ_eq_append_getElem hkl]
          have : l[k] = x := by have := HX.out; rw [List.getElem?_eq_getElem hkl] at this; exact Option.some.inj this
          rw [this]
          intro hc
          rcases List.mem_append.1 hc with h | h
          · exact HM.out h
          · simp at h; exact hne ⟨by rw [← h], by rw [← h]⟩
        by_cases t1 : x.1 = a
        · by_cases t2 : x.2 = b
          · have HF : Hid (decide ((a, b) ∈ l) = true) := by
              unfold Hid; apply decide_eq_true
              have := List.mem_of_getElem? HX.out
              rw [show x = (a, b) from Prod.ext t1 t2] at this; exact this
            have t1' : (x.1 == a) = true := by simp [t1]
            have t2' : (x.2 == b) = true := by simp [t2]
            clear t1 t2 next
            go_wp2
            go_ret
            exact ⟨ret_bool (by rw [HF.out]), rfl⟩
          · have HS := next (fun h => t2 h.2)
            have t1' : (x.1 == a) = true := by simp [t1]
            have t2' : (x.2 == b) = false := by simp [t2]
            clear t1 t2 next
            go_wp2
            go_round
            case rel => exact ⟨k + 1, by omega, by go_num, HS⟩
            case measure => simp [intOf]; omega
        · have HS := next (fun h => t1 h.1)
          have t1' : (x.1 == a) = false := by simp [t1]
          clear t1 next
          go_wp2
          go_round
          case rel => exact ⟨k + 1, by omega, by go_num, HS⟩
          case measure => simp [intOf]; omega
      · obtain rfl : k = n := by omega
        have HF : Hid (decide ((a, b) ∈ l) = false) := by
          unfold Hid; apply decide_eq_false
          have := HM.out; rw [List.take_of_length_le (by rw [HN.out]; exact Nat.le_refl _)] at this; exact this
        go_wp2
        go_ret
        exact ⟨ret_bool (by rw [HF.out]), rfl⟩

theorem app2_info : (Tryz.prog.info? 98).map (fun i => (i.zero, i.size, i.bytes)) = some (some (.agg #[.int .i64 0, .int .i64 0]), 2, 16) := info_pair

/-- True up to a place -/
def truK (n : Nat) (h : Int) (k : Nat) : List (Int × Int) := firstsP ((List.range k).map (ptP n h))
theorem truK_succ (n : Nat) (h : Int) (k : Nat) : truK n h (k + 1) = if ptP n h k ∈ truK n h k then truK n h k else truK n h k ++ [ptP n h k] := by
  unfold truK; rw [List.range_succ, List.map_append]; exact firstsP_snoc _ _
theorem truK_len (n : Nat) (h : Int) (k : Nat) : (truK n h k).length ≤ k := by
  have := firstsP_len ((List.range k).map (ptP n h)); simpa [truK] using this
theorem klip_pt (r : Int) (a : Int) (h : 0 ≤ a) : klip a r = P.lim (kap r) a := by unfold klip P.lim; omega

set_option maxHeartbeats 2000000 in
theorem rpTrue_any (n : Nat) (r : Int) (w : World) (hn : n ≤ 4194304) (hr : -9223372036854775807 ≤ r) (hr2 : r ≤ 9223372036854775807) :
    Calls Tryz.prog 100 #[.int .i64 n, .int .i64 r] w fun e w' => ∃ v, e = .returned v ∧ w'.ownsRow w.heap.size 98 2 v (truP n r).length (cellsP (truP n r)) ∧ Below w.heap.size w w' := by
  obtain ⟨h, hh⟩ : ∃ h, kap (r - 1) = h := ⟨_, rfl⟩
  have HT : Hid (truP n r = truK n h n) := by unfold Hid truP truK; rw [hh]; simp
  have HK : Hid (∀ a : Int, 0 ≤ a → klip a (r - 1) = P.lim h a) := by unfold Hid; intro a ha; rw [klip_pt _ _ ha, hh]
  clear hh
  go_enter Tryz.func100, Tryz.ntmps100
  go_wp2
  go_loopw [5, 6, 7, 8] (fun v i _ _ wr => ∃ k : Nat, k ≤ n ∧ i = .int .i64 k ∧ wr.ownsRow w.heap.size 98 2 v (truK n h k).length (cellsP (truK n h k)) ∧ Below w.heap.size w wr) (fun _ i _ _ _ => n - (intOf i).toNat)
  case atStart => exact ⟨0, Nat.zero_le _, rfl, World.ownsRow_nil _ _ _ _, Below.refl _ _⟩
  case round =>
    obtain ⟨k, hk, rfl, hown, hb⟩ := hrel
    have hsz := hb.size
    have hll := truK_len n h k
    by_cases hlt : k < n
    · have p1 : (k : Int) < (n : Int) := by omega
      have E1 := Lib.hid (HK.out k (by omega))
      have E2 := Lib.hid (HK.out ((n : Int) - 1 - k) (by omega))
      have EP : Hid (ptP n h k = (P.lim h k, P.lim h ((n : Int) - 1 - k))) := Lib.hid rfl
      obtain ⟨u, hu⟩ : ∃ u, P.lim h k = u := ⟨_, rfl⟩
      obtain ⟨z, hz⟩ : ∃ z, P.lim h ((n : Int) - 1 - k) = z := ⟨_, rfl⟩
      rw [hu] at E1 EP
      rw [hz] at E2 EP
      have HS := Lib.hid (truK_succ n h k)
      rw [EP.out] at HS
      have HH := Lib.hid (rpHas_any w.heap.size _ (truK n h k) u z wr hown (by omega))
      clear hu hz
      go_wp2_with fail
      refine (rclip_any _ _ _).mono ?_; rintro e w' ⟨rfl, rfl⟩; rw [E1.out]
      go_wp2_with fail
      refine (rclip_any _ _ _).mono ?_; rintro e w' ⟨rfl, rfl⟩; rw [E2.out]
      go_wp2_with fail
      refine HH.out.mono ?_
      rintro e w' ⟨rfl, rfl⟩
      by_cases hin : (u, z) ∈ truK n h k
      · have HS' : Hid (truK n h (k + 1) = truK n h k) := by unfold Hid; rw [HS.out, if_pos hin]
        rw [decide_eq_true hin]
        clear hin
        go_wp2
        go_roundw
        case rel => exact ⟨k + 1, by omega, by go_num, by rw [HS'.out]; exact hown, hb⟩
        case measure => simp [intOf]; omega
      · have HS' : Hid (truK n h (k + 1) = truK n h k ++ [(u, z)]) := by unfold Hid; rw [HS.out, if_neg hin]
        rw [decide_eq_false hin]
        clear hin
        go_wp2_with (at_builtin; refine app1 wr #[.int .i64 u, .int .i64 z] rfl _ _ 96 rfl w.heap.size 98 (.agg #[.int .i64 0, .int .i64 0]) 2 16 Tryz.underlying96 info_pair rfl (by decide) (by decide) _ _ _ rfl (by exact hown) rfl (by simp) rfl (by simp [Value.oneCell']) (by omega) hsz ?_; intro v' w1 hown' hg' hb')
        go_roundw
        case rel => exact ⟨k + 1, by omega, by go_num, by rw [HS'.out, cellsP_snoc, List.length_append]; exact hown', hb.trans hb'⟩
        case measure => simp [intOf]; omega
    · obtain rfl : k = n := by omega
      go_wp2
      go_ret
      exact ⟨_, rfl, by rw [HT.out]; exact hown, hb⟩

theorem rowP_bound (p : Int × Int → Bool) (a k : Nat) : (rowP p a k).length ≤ k := by
  unfold rowP; have := List.length_filter_le p ((List.range k).map fun b : Nat => ((a : Int), (b : Int))); simpa using this
theorem gridK_bound (p : Int × Int → Bool) (h k : Nat) : (gridK p h k).length ≤ k * (h + 1) := by
  induction k with
  | zero => simp [gridK]
  | succ k ih => rw [gridK_succ, List.length_append]; have := rowP_bound p k (h + 1); rw [Nat.add_mul]; omega

set_option maxHeartbeats 4000000 in
/-- Splits of warderref21, where at most six writes are left -/
theorem rpSplits_any (g r : Int) (w : World) (hr2 : r ≤ 6) :
    Calls Tryz.prog 71 #[.int .i64 g, .int .i64 r] w fun e w' => ∃ v, e = .returned v ∧ w'.ownsRow w.heap.size 98 2 v (refP g r).length (cellsP (refP g r)) ∧ Below w.heap.size w w' := by
  by_cases hr0 : r < 1
  · have H : Hid (refP g r = []) := by unfold Hid refP; rw [if_pos (.inl hr0)]
    go_enter Tryz.func71, Tryz.ntmps71
    go_wp2
    go_ret
    exact ⟨_, rfl, by rw [H.out]; exact World.ownsRow_nil _ _ _ _, Below.refl _ w⟩
  · by_cases hg : g < 1
    · have H : Hid (refP g r = []) := by unfold Hid refP; rw [if_pos (.inr hg)]
      go_enter Tryz.func71, Tryz.ntmps71
      go_wp2
      go_ret
      exact ⟨_, rfl, by rw [H.out]; exact World.ownsRow_nil _ _ _ _, Below.refl _ w⟩
    · obtain ⟨b0, b1, b2⟩ := klip_bd g r
      obtain ⟨c, hc⟩ : ∃ c : Nat, klip g r = c := ⟨(klip g r).toNat, by omega⟩
      have hd := kap_dbl r (by omega) (by omega)
      have hle : kap (r - 1) ≤ 31 := by
        have h1 : kap (r - 1) ≤ 2 ^ 5 - 1 := by
          unfold kap; have : (2 : Nat) ^ kapE (r - 1) ≤ 2 ^ 5 := Nat.pow_le_pow_right (by omega) (by unfold kapE; omega); omega
        omega
      obtain ⟨h, hh⟩ : ∃ h, kap (r - 1) = h := ⟨_, rfl⟩
      obtain ⟨kr, hkr⟩ : ∃ kr, kap r = kr := ⟨_, rfl⟩
      rw [hh, hkr] at hd
      rw [hh] at hle
      rw [hc, hkr] at b1
      obtain ⟨m, hm⟩ : ∃ m : Nat, (if c = kr then 3 * c + 3 else c) = m := ⟨_, rfl⟩
      obtain ⟨p, hp⟩ : ∃ p : Int × Int → Bool, p = fun x => decide (x ∈ truP m r) := ⟨_, rfl⟩
      have HP : Hid (∀ a b : Int, p (a, b) = decide ((a, b) ∈ truP m r)) := by unfold Hid; intro a b; rw [hp]
      have HR : Hid (refP g r = gridK p h (h + 1)) := by
        unfold Hid refP
        rw [if_neg (by omega), hc, hkr, hh, hp, ← hm]
        unfold gridP
        by_cases hck : c = kr
        · subst hck; simp
        · rw [if_neg (by omega), if_neg hck]
      have hlen : (truP m r).length ≤ 8388608 := by
        have : (truP m r).length ≤ m := by unfold truP; have := firstsP_len ((List.range (m : Int).toNat).map (ptP m (kap (r - 1)))); simpa using this
        split at hm <;> omega
      have HC := Lib.hid hc
      have HK := Lib.hid hkr
      have HH := Lib.hid hh
      have HT := fun w => Lib.hid (rpTrue_any m r w (by split at hm <;> omega) (by omega) (by omega))
      have hcm : (c = kr ∧ m = 3 * c + 3) ∨ (c ≠ kr ∧ m = c) := by split at hm <;> omega
      have hcc : c ≤ 63 := by omega
      clear hc hkr hh hp hm b0 b2 hd
      rcases hcm with ⟨e1, e2⟩ | ⟨e1, e2⟩
      case' inl => have t1 : ((c : Int) == (kr : Int)) = true := by simp [e1]
      case' inr => have t1 : ((c : Int) == (kr : Int)) = false := by simp; omega
      case' inl => have e3 : (3 : Int) * (c : Int) + 3 = (m : Int) := by omega
      case' inr => have e3 : (c : Int) = (m : Int) := by omega
      all_goals
        clear e1 e2
        have HE := Lib.hid e3
        clear e3
        go_enter Tryz.func71, Tryz.ntmps71
        go_wp2_with fail
        refine (rclip_any _ _ _).mono ?_; rintro e w' ⟨rfl, rfl⟩; rw [HC.out]
        go_wp2_with fail
        refine (rcap_any _ _).mono ?_; rintro e w' ⟨rfl, rfl⟩; rw [HK.out]
        go_wp2_with fail
        rw [HE.out]
        refine (HT _).out.mono ?_
        rintro e w2 ⟨v, rfl, hown, hb⟩
        have HO := Lib.hid hown
        have hsz := hb.size
        have HB := Lib.hid hb
        clear hown hb
        go_wp2
        go_loopw [5, 8, 9] (fun o a _ wr => ∃ k : Nat, k ≤ h + 1 ∧ a = .int .i64 k ∧ Hid (wr.ownsRow w2.heap.size 98 2 o (gridK p h k).length (cellsP (gridK p h k))) ∧ Hid (Below w2.heap.size w2 wr)) (fun _ a _ _ => h + 1 - (intOf a).toNat)
        case atStart => exact ⟨0, Nat.zero_le _, rfl, World.ownsRow_nil _ _ _ _, Below.refl _ _⟩
        case round =>
          obtain ⟨k, hk, rfl, hown1, hb1⟩ := hrel
          have hsz1 := hown1.out
          have hgb := gridK_bound p h k
          have hkk : k * (h + 1) ≤ 1024 := Nat.le_trans (Nat.mul_le_mul hk (Nat.le_refl _)) (by have : (h + 1) * (h + 1) ≤ 32 * 32 := Nat.mul_le_mul (by omega) (by omega); omega)
          clear hsz1
          by_cases hlt : k < h + 1
          · have p1 : (k : Int) ≤ (h : Int) := by omega
            have HG := Lib.hid (gridK_succ p h k)
            go_wp2_with fail
            refine (rcap_any _ _).mono ?_; rintro e w' ⟨rfl, rfl⟩; rw [HH.out]
            go_wp2
            go_loopw [5, 9] (fun o b w4 => ∃ j : Nat, j ≤ h + 1 ∧ b = .int .i64 j ∧ Hid (w4.ownsRow w2.heap.size 98 2 o (gridK p h k ++ rowP p k j).length (cellsP (gridK p h k ++ rowP p k j))) ∧ Hid (Below w2.heap.size w2 w4)) (fun _ b _ => h + 1 - (intOf b).toNat)
            case atStart => exact ⟨0, Nat.zero_le _, rfl, by simpa [rowP] using hown1, hb1⟩
            case round =>
              obtain ⟨j, hj, rfl, hown2, hb2⟩ := hrel
              have hrb := rowP_bound p k j
              have hlen2 : (gridK p h k ++ rowP p k j).length ≤ 2048 := by rw [List.length_append]; omega
              have hsz2 := hb2.out.size
              by_cases hlt2 : j < h + 1
              · have p2 : (j : Int) ≤ (h : Int) := by omega
                have HS := Lib.hid (rowP_succ p k j)
                have HH2 := Lib.hid (rpHas_any w.heap.size v (truP m r) k j _ (owns_below HO.out hb2.out) hlen)
                have HPk := Lib.hid (HP.out k j)
                go_wp2_with fail
                refine (rcap_any _ _).mono ?_; rintro e w' ⟨rfl, rfl⟩; rw [HH.out]
                go_wp2_with fail
                refine HH2.out.mono ?_
                rintro e w' ⟨rfl, rfl⟩
                rw [← HPk.out]
                cases hpk : p ((k : Int), (j : Int))
                · have HS' : Hid (gridK p h k ++ rowP p k (j + 1) = gridK p h k ++ rowP p k j) := by unfold Hid; rw [HS.out, hpk]; simp
                  clear hpk
                  go_wp2
                  go_roundw
                  case rel => exact ⟨j + 1, by omega, by go_num, by rw [HS'.out]; exact hown2, hb2⟩
                  case measure => simp [intOf]; omega
                · have HS' : Hid (gridK p h k ++ rowP p k (j + 1) = (gridK p h k ++ rowP p k j) ++ [((k : Int), (j : Int))]) := by unfold Hid; rw [HS.out, hpk]; simp
                  clear hpk
                  have hb3 : ((gridK p h k ++ rowP p k j).length + 1) * 16 ≤ 140737488355328 := by omega
                  go_wp2_with (at_builtin; refine app1 _ #[.int .i64 k, .int .i64 j] rfl _ _ 96 rfl w2.heap.size 98 (.agg #[.int .i64 0, .int .i64 0]) 2 16 Tryz.underlying96 info_pair rfl (by decide) (by decide) _ _ _ rfl (by exact hown2.out) rfl (by simp) rfl (by simp [Value.oneCell']) hb3 hsz2 ?_; intro v' w1 hown' hg' hb')
                  go_roundw
                  case rel => exact ⟨j + 1, by omega, by go_num, by unfold Hid; rw [HS'.out, cellsP_snoc, List.length_append]; exact hown', Lib.hid (hb2.out.trans hb')⟩
                  case measure => simp [intOf]; omega
              · obtain rfl : j = h + 1 := by omega
                have p2 : ¬ ((h + 1 : Nat) : Int) ≤ (h : Int) := by omega
                go_wp2_with fail
                refine (rcap_any _ _).mono ?_; rintro e w' ⟨rfl, rfl⟩; rw [HH.out]
                go_wp2
                go_roundw
                case rel => exact ⟨k + 1, by omega, by go_num, by rw [HG.out]; exact hown2, hb2⟩
                case measure => simp [intOf]; omega
          · obtain rfl : k = h + 1 := by omega
            have p1 : ¬ ((h + 1 : Nat) : Int) ≤ (h : Int) := by omega
            go_wp2_with fail
            refine (rcap_any _ _).mono ?_; rintro e w' ⟨rfl, rfl⟩; rw [HH.out]
            go_wp2
            go_ret
            exact ⟨_, rfl, by rw [HR.out]; exact owns_mono hown1.out hsz, HB.out.trans (hb1.out.mono hsz)⟩

end Go.Proofs.YtkkoooagamadjaaGreatDoor
