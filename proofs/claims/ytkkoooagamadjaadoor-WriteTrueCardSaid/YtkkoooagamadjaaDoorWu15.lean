/- Splits of package halve, where more writes are left than count. Contracts of Splits and Outer of package halve, and of Has, True, Splits, Same of warderref21. Contracts of awake and BitsSets of warderlaw14. Contracts of Same of warderref21, Outer of package halve, awake of warderlaw21. -/
import Derived.Test.YtkkoooagamadjaaDoorWu04
import Derived.Test.YtkkoooagamadjaaDoorWu14
import Derived.Test.YtkkoooagamadjaaDoorWu06

namespace Go.Proofs.YtkkoooagamadjaaDoor
open Go.RowKit Go.Shelf
open Go.ChangeMaps (setBlock heap_setBlock_same heap_setBlock_other frozen?_setBlock)
attribute [local go_sem] Oper.semAt_some

set_option maxRecDepth 10000 in
set_option maxHeartbeats 8000000 in
theorem splitsB_in (F : Fence) (hft : ∀ f, F.fn f) (hro : F.round = none) (hd : F.depth = none) (n : Nat) (hn : 6 ≤ n)
    (hcap : ∀ m r W, CallsIn F m Tryd.prog 68 #[.int .i64 r] W fun e w' => e = .returned (.int .i64 (kap r)) ∧ W = w')
    (hclip : ∀ m g r W, CallsIn F m Tryd.prog 71 #[.int .i64 g, .int .i64 r] W fun e w' => e = .returned (.int .i64 (klip g r)) ∧ W = w')
    (g r : Int) (w : World) (hr : 1 ≤ r) (hr2 : r ≤ 9223372036854775807) (hg : 1 ≤ g) (hrr : 20 < r) (c h kr : Nat) (hc : klip g r = c) (hh : kap (20 - 1) = h) (hkr : kap 20 = kr) (hh2 : h ≤ 1048575) (hc2 : c ≤ 2097151)
    (xs : List (Int × Int)) (hxs : xs = adj (rawP c h (!decide (c < kr)))) (hlen : xs.length ≤ 8388608) (hok : ∀ p ∈ xs, okP p)
    (hsort : ∀ m v l W, W.ownsRow w.heap.size 87 2 v l.length (cellsP l) → l.length ≤ 8388608 → CallsIn F m Tryd.prog 72 #[v] W fun e W' => e = .returned (.tuple #[]) ∧ ∃ l', SortP l l' ∧ W'.ownsRow w.heap.size 87 2 v l.length (cellsP l') ∧ W.grownBy W' v.ownBlock) :
    CallsIn F n Tryd.prog 51 #[.int .i64 g, .int .i64 r] w fun e w' => ∃ v l', e = .returned v ∧ SortP (firstsP xs) l' ∧ w'.ownsRow w.heap.size 87 2 v (firstsP xs).length (cellsP l') ∧ Below w.heap.size w w' := by
  have hf0 := hft 51
  have hf1 := hft 70
  have hf2 := hft 71
  have hf3 := hft 72
  have h1n : 1 ≤ n := by omega
  have h1n1 : 1 ≤ n - 1 - 1 := by omega
  have hmm := @run_makeMap Tryd.prog
  obtain ⟨i0, hi, hz0, hz1, hz2⟩ := info_parts info_pair
  have HT := Lib.hid hft
  clear hft
  have HXS := Lib.hid hxs
  clear hxs
  refine callsIn_of_wp_marks Tryd.func51 rfl hf0 ?_ hro
  simp only [Tryd.ntmps51, List.size_toArray, List.length_cons, List.length_nil, Nat.reduceAdd, Nat.reduceSub, Array.replicate_succ, Array.replicate_zero, List.push_toArray, List.append_toArray, List.nil_append, List.cons_append]
  gi_wp2_with (first
    | (gi_at_call 71; refine (hclip _ _ _ _).mono ?_; rintro e w' ⟨rfl, rfl⟩; rw [hc])
    | (gi_at_call 70; refine (splits_in F _ hf1 (HT.out _) hro (by omega) hcap _ _ (by omega) (by omega) _).mono ?_; rintro e w' ⟨rfl, rfl⟩; rw [hh]))
  have w0s : ((((((w.alloc (.cells #[.slice none 0 0] 85)).alloc (.map #[] 0)).alloc (.cells #[.map (some (w.heap.size + 1))] 107)).alloc (.cells #[.int .i64 c] 3)).alloc (.cells #[.int .i64 20] 3)).alloc (.cells #[.int .i64 h] 3)).heap.size = w.heap.size + 6 := by simp
  have m0 : Mid w [] (.slice none 0 0) #[] 0 (((w.alloc (.cells #[.slice none 0 0] 85)).alloc (.map #[] 0)).alloc (.cells #[.map (some (w.heap.size + 1))] 107)) := by
    have b1 := ((Boxed.new w 85 (.slice none 0 0)).alloc (.map #[] 0)).alloc (.cells #[.map (some (w.heap.size + 1))] 107)
    have b2 := Boxed.new ((w.alloc (.cells #[.slice none 0 0] 85)).alloc (.map #[] 0)) 107 (.map (some (w.heap.size + 1)))
    have b3 := World.alloc_heap_new (w.alloc (.cells #[.slice none 0 0] 85)) (.map #[] 0)
    simp only [World.size_alloc] at b2 b3
    refine ⟨b1, World.ownsRow_nil _ _ _ _, (Below.heap_alloc _ _ _ (by simp)).trans b3, b2, ⟨MapKept.stamped_empty 0, by simp, by simp, by simp⟩, (((Below.refl _ w).alloc (Nat.le_refl _) _).alloc (by simp) _).alloc (by simp; omega) _⟩
  have m1 : Mid w [] (.slice none 0 0) #[] 0 ((((((w.alloc (.cells #[.slice none 0 0] 85)).alloc (.map #[] 0)).alloc (.cells #[.map (some (w.heap.size + 1))] 107)).alloc (.cells #[.int .i64 c] 3)).alloc (.cells #[.int .i64 20] 3)).alloc (.cells #[.int .i64 h] 3)) :=
    ((m0.grown (World.grownBy_alloc _ _ none) (fun _ e => by cases e)).grown (World.grownBy_alloc _ _ none) (fun _ e => by cases e)).grown (World.grownBy_alloc _ _ none) (fun _ e => by cases e)
  have c1 : ((((((w.alloc (.cells #[.slice none 0 0] 85)).alloc (.map #[] 0)).alloc (.cells #[.map (some (w.heap.size + 1))] 107)).alloc (.cells #[.int .i64 c] 3)).alloc (.cells #[.int .i64 20] 3)).alloc (.cells #[.int .i64 h] 3)).cell? ⟨w.heap.size + 3, 0, none⟩ = some (.int .i64 c) := by go_simp
  have c2 : ((((((w.alloc (.cells #[.slice none 0 0] 85)).alloc (.map #[] 0)).alloc (.cells #[.map (some (w.heap.size + 1))] 107)).alloc (.cells #[.int .i64 c] 3)).alloc (.cells #[.int .i64 20] 3)).alloc (.cells #[.int .i64 h] 3)).cell? ⟨w.heap.size + 4, 0, none⟩ = some (.int .i64 20) := by go_simp
  have c3 : ((((((w.alloc (.cells #[.slice none 0 0] 85)).alloc (.map #[] 0)).alloc (.cells #[.map (some (w.heap.size + 1))] 107)).alloc (.cells #[.int .i64 c] 3)).alloc (.cells #[.int .i64 20] 3)).alloc (.cells #[.int .i64 h] 3)).cell? ⟨w.heap.size + 5, 0, none⟩ = some (.int .i64 h) := by go_simp
  obtain ⟨w0, hw0⟩ : ∃ w0, (((((w.alloc (.cells #[.slice none 0 0] 85)).alloc (.map #[] 0)).alloc (.cells #[.map (some (w.heap.size + 1))] 107)).alloc (.cells #[.int .i64 c] 3)).alloc (.cells #[.int .i64 20] 3)).alloc (.cells #[.int .i64 h] 3) = w0 := ⟨_, rfl⟩
  rw [hw0] at w0s m1 c1 c2 c3 ⊢
  clear hw0 m0
  have HS := splits_seq F (n - 1) (HT.out _) (HT.out _) (HT.out _) hro hd (by omega) hcap (B := w.heap.size + 3) (bo := w.heap.size) (bh := w.heap.size + 5) (bg := w.heap.size + 3) (br := w.heap.size + 4) w0 (by omega) (by omega) (by omega) (by omega) (by omega) (by omega) hh2 hc2 hkr c3 c1 c2
  rw [← HXS.out] at HS
  refine wpIn_rangeFunc_st hro h1n (gf := 84) (lb := #[.pointer (some ⟨w.heap.size + 5, 0, none⟩), .pointer (some ⟨w.heap.size + 3, 0, none⟩), .pointer (some ⟨w.heap.size + 4, 0, none⟩)]) rfl (HT.out _) (enters_of Tryd.func84 (by kernel_rfl) rfl)
    (w.heap.size + 3) w.heap.size HS (Below.refl _ _) (fun _ => rfl) (by omega) (by omega) ?free
    (fun pre W => ∃ v es clock, Mid w pre v es clock W) ?abides ?frees ⟨_, _, _, m1⟩ ?act ?assign ?body ?done
  case assign =>
    intro l x W K hK
    gi_wp2
    exact hK
  case free =>
    intro k _ u hu e
    rw [m1.box.cell] at hu
    cases hu
    simp [Value.ownBlock] at e
  case abides =>
    rintro s A A' row ⟨v, es, clock, m⟩ hg hr
    exact ⟨v, es, clock, m.grown hg (fun r e => ⟨by have := (hr r e).1; omega, (hr r e).2 v m.box.cell⟩)⟩
  case frees =>
    rintro s A ⟨v, es, clock, m⟩ r hr u hu e
    rw [m.box.cell] at hu
    cases hu
    have := (m.own.lt r e).2
    omega
  case body =>
    rintro l pre x W hsz ⟨v, es, clock, m⟩ hpre
    have hxm : x ∈ xs := hpre.subset (by simp)
    have hpl : pre.length + 1 ≤ xs.length := by have := hpre.length_le; simpa using this
    obtain ⟨v0, st, es1, es2, ck1, ck2, k1, k2, k3, k4, k5, hS2⟩ := seen_step (b := w.heap.size + 1) m.seen (hok x hxm)
    have hcl := cntP_le pre x
    have a0 : W.drew.heap[w.heap.size + 1]? = some (.map es clock) := m.map
    have a1 := heap_setBlock_same a0 (.map es1 ck1)
    have a2 := heap_setBlock_same a1 (.map es2 ck2)
    have hx1 : pairV x = .agg #[.int .i64 x.1, .int .i64 x.2] := rfl
    have e1 := k1 W.drew a0
    have e2 := k2 W.drew a0
    have e3 := k3 _ a1
    have e4 := k4 _ a1
    have e5 := k5 _ a2
    have g1 : W.drew.grownBy (setBlock W.drew (w.heap.size + 1) (.map es1 ck1)) (some (w.heap.size + 1)) := setBlock_grown a0
    have g2 : (setBlock W.drew (w.heap.size + 1) (.map es1 ck1)).grownBy (setBlock (setBlock W.drew (w.heap.size + 1) (.map es1 ck1)) (w.heap.size + 1) (.map es2 ck2)) (some (w.heap.size + 1)) := setBlock_grown a1
    rw [hx1] at e1 e2 e3 e5
    clear k1 k2 k3 k4 k5 hx1
    obtain ⟨W2, hW2⟩ : ∃ W2, setBlock W.drew (w.heap.size + 1) (.map es1 ck1) = W2 := ⟨_, rfl⟩
    rw [hW2] at e2 e3 e4 e5 g1 g2 a1 a2
    obtain ⟨W3, hW3⟩ : ∃ W3, setBlock W2 (w.heap.size + 1) (.map es2 ck2) = W3 := ⟨_, rfl⟩
    rw [hW3] at e4 e5 g2 a2
    clear hW2 hW3
    obtain ⟨q, hq⟩ : ∃ q : Nat, cntP pre x = q := ⟨_, rfl⟩
    rw [hq] at e1 e3 e4 e5 hcl
    have hq2 : q ≤ 8388608 := by omega
    have gd : W.grownBy W.drew none := ⟨rfl, rfl, rfl, Nat.le_refl _, fun _ _ _ => rfl⟩
    have b0 : w.heap.size < W.heap.size := m.box.lt
    have b1 : w.heap.size < W2.heap.size := Nat.lt_of_lt_of_le b0 g1.size
    have hb3 : Harb (fun k => w.heap.size + 3 ≤ k) w.heap.size W W3 :=
      (Harb.of_grown gd b0 (by simp) (fun r e => by cases e)).trans ((Harb.of_grown g1 b0 (by simp) (fun r e => by cases e; omega)).trans (Harb.of_grown g2 b1 (by simp) (fun r e => by cases e; omega)))
    have nm : v.ownBlock ≠ some (w.heap.size + 1) := own_not_map m.own m.map
    have m3 : Boxed W3 w.heap.size 85 v ∧ W3.ownsRow w.heap.size 87 2 v (firstsP pre).length (cellsP (firstsP pre)) ∧ Boxed W3 (w.heap.size + 2) 107 (.map (some (w.heap.size + 1))) ∧ Below w.heap.size w W3 :=
      ⟨((m.box.kept gd (by simp)).kept g1 (by simp)).kept g2 (by simp), ((m.own.kept gd (by cases v.ownBlock <;> simp)).kept g1 (.inr nm)).kept g2 (.inr nm), ((m.mbox.kept gd (by simp)).kept g1 (by simp)).kept g2 (by simp),
        ((m.below.grown gd m.below.size (fun r e => by cases e)).grown g1 (by have := m.below.size; exact this) (fun r e => by cases e; omega)).grown g2 (by have := m.below.size; omega) (fun r e => by cases e; omega)⟩
    obtain ⟨b3, o3, mb3, bl3⟩ := m3
    have hfl := firstsP_len pre
    have cm : W.cell? ⟨w.heap.size + 1 + 1, 0, none⟩ = some (.map (some (w.heap.size + 1))) := m.mbox.cell
    have cm3 : W3.cell? ⟨w.heap.size + 1 + 1, 0, none⟩ = some (.map (some (w.heap.size + 1))) := mb3.cell
    have co3 := b3.cell
    have cf3 := b3.frozen
    have hmx : Tryd.prog.follows .mixedOrders = true := by kernel_rfl
    have M3 : Mid w pre v es clock W3 → True := fun _ => trivial
    clear M3
    have HB3 := Lib.hid hb3
    have HS2 := Lib.hid hS2
    have HA2 := Lib.hid a2
    have HBL := Lib.hid bl3
    have HB := Lib.hid b3
    have HO := Lib.hid o3
    have HMB := Lib.hid mb3
    have HSE := Lib.hid m.seen
    clear hb3 hS2 a2 bl3 b3 o3 mb3 g1 g2 a0 a1 gd m
    have hwr : IntKind.i64.wrap ((q : Int) + 1) = (q : Int) + 1 := IntWalk.i64_in _ ⟨by omega, by omega⟩
    gi_wp2
    rename_i K aK
    have HK : K { tmps := frE w.heap.size g r 20 c x q st v0, defers := [] } W3 := by
      apply aK
      simp only [frE]
      by_cases hq0 : q = 0
      · have HN := Lib.hid (firstsP_new pre x (by rw [hq]; exact hq0))
        have hqt : ((q : Int) + 1 == 1) = true := by simp; omega
        clear hq hq0
        have hb1 : (firstsP pre).length + 1 ≤ maxLen := by unfold maxLen; omega
        have hb2 : ((firstsP pre).length + 1) * 16 ≤ 140737488355328 := by omega
        have hb3 : w.heap.size ≤ W3.heap.size := HBL.out.size
        gi_wp2_with (gi_at_builtin; refine appendIn_at _ rfl _ _ 85 rfl w.heap.size 87 i0 (.agg #[.int .i64 0, .int .i64 0]) 2 16 Tryd.underlying85 hi hz0 hz1 hz2 rfl (by decide) _ _ _ rfl (HO.out.alloc _) ⟨W3.heap.size, 0, none⟩ 1 1 [.int .i64 x.1, .int .i64 x.2] rfl rfl (cell_two_new _ _ _ _) (by simp [Value.oneCell']) hb1 hb2 (by simp; omega) ?_; intro v' w1 hown' hgrow hat; obtain ⟨g', cap', hv'⟩ := ownsRow_succ hown'; obtain ⟨hv1, hv2, hv3⟩ := Mid.app HB.out HO.out HMB.out HBL.out HS2.out HA2.out HN.out hown' hgrow hat; subst hv'; have hc1 := hv1.cell; have hf1 := hv1.frozen; have HV2 := Lib.hid hv2; have HV3 := Lib.hid hv3; clear hv2 hv3 hown' hgrow hat)
        exact ⟨HB3.out.trans HV3.out, _, _, _, HV2.out⟩
      · have HN := Lib.hid (firstsP_old pre x (by rw [hq]; exact hq0))
        have hqt : ((q : Int) + 1 == 1) = false := by simp; omega
        clear hq hq0
        gi_wp2
        exact ⟨HB3.out, v, es2, ck2, ⟨HB.out, by rw [HN.out]; exact HO.out, HA2.out, HMB.out, HS2.out, HBL.out⟩⟩
    clear aK
    gi_region_with_o (fail)
    all_goals exact HK
  case done =>
    rintro D W hD hfD ⟨v, es, clock, m⟩ hK
    have hfl := firstsP_len xs
    have co := m.box.cell
    have hne1 : some w.heap.size ≠ v.ownBlock := m.box.not_row (by decide) m.own
    have hne2 : v.ownBlock ≠ some D := hfD v co
    have hDl : D < W.heap.size := (Array.getElem?_eq_some_iff.1 hK).1
    have hS := Lib.hid (hsort (n - 1) v (firstsP xs) W m.own (by omega))
    have hB := Lib.hid m.box
    have hM := Lib.hid m.below
    clear m
    gi_wp2_with (gi_at_call 72; refine (hS.out).mono ?_; rintro e W4 ⟨rfl, l', hsp, hown, hg4⟩; have hb4 := (hB.out.kept hg4 hne1).cell)
    have hK4 : W4.heap[D]? = some (.deferred (some [])) := (hg4.block D hDl (fun e => hne2 e.symm)).trans hK
    have hbl4 : Below w.heap.size w W4 := hM.out.grown hg4 hM.out.size (fun k e => by have := (hown.lt k e).1; omega)
    refine ⟨by simp, .inl ⟨_, _, rfl, run_takeDeferred hK4, ?_⟩⟩
    exact ⟨_, results_tmp rfl _ _ _, v, l', rfl, hsp, ownsRow_putObj hown _ hK4 rfl, hbl4.grown (grownBy_putObj' W4 D _) hbl4.size (fun k e => by cases e; omega)⟩

end Go.Proofs.YtkkoooagamadjaaDoor

namespace Go.Proofs.YtkkoooagamadjaaDoor
open Go.RowKit

set_option maxHeartbeats 400000 in
/-- Splits of package halve, for all whole numbers of 64 bits -/
theorem splits_any (g r : Int) (w : World) (hr2 : r ≤ 9223372036854775807) :
    Calls Tryd.prog 51 #[.int .i64 g, .int .i64 r] w fun e w' => ∃ v, e = .returned v ∧ w'.ownsRow w.heap.size 87 2 v (splP g r).length (cellsP (splP g r)) ∧ Below w.heap.size w w' := by
  by_cases hr : r < 1
  · have H : Hid (splP g r = []) := by unfold Hid splP; rw [if_pos (.inl hr)]
    have hm := @run_makeMap Tryd.prog
    go_enter Tryd.func51, Tryd.ntmps51
    go_wp2
    go_ret
    exact ⟨_, rfl, by rw [H.out]; exact World.ownsRow_nil _ _ _ _, (Below.refl _ w).alloc (Nat.le_refl _) _⟩
  · by_cases hg : g < 1
    · have H : Hid (splP g r = []) := by unfold Hid splP; rw [if_pos (.inr hg)]
      have hm := @run_makeMap Tryd.prog
      have hr' : 1 ≤ r := by omega
      go_enter Tryd.func51, Tryd.ntmps51
      go_wp2
      go_ret
      exact ⟨_, rfl, by rw [H.out]; exact World.ownsRow_nil _ _ _ _, (Below.refl _ w).alloc (Nat.le_refl _) _⟩
    · obtain ⟨b0, b1, b2⟩ := klip_bd g r
      obtain ⟨c, hc⟩ : ∃ c : Nat, klip g r = c := ⟨(klip g r).toNat, by omega⟩
      have hh := kap_le (min r 20 - 1)
      obtain ⟨h, hhe⟩ : ∃ h, kap (min r 20 - 1) = h := ⟨_, rfl⟩
      obtain ⟨kr, hkr⟩ : ∃ kr, kap (min r 20) = kr := ⟨_, rfl⟩
      rw [hhe] at hh
      have hlen := Nat.le_trans (adj_len (rawP c h (!decide (c < kr)))) (rawP_len _ _ _)
      have hok : ∀ p ∈ adj (rawP c h (!decide (c < kr))), okP p := fun p hp => by
        rw [adj_mem _ (fun hc => by obtain ⟨u, v, _, _, e⟩ := raw_box _ _ _ _ hc; simp at e)] at hp
        obtain ⟨u, v, hu, hv, rfl⟩ := raw_box _ _ _ _ hp
        exact ⟨WalkArith.wf_i64 ⟨by dsimp only; omega, by dsimp only; omega⟩, WalkArith.wf_i64 ⟨by dsimp only; omega, by dsimp only; omega⟩⟩
      have hsort : ∀ m v l W, W.ownsRow w.heap.size 87 2 v l.length (cellsP l) → l.length ≤ 8388608 → CallsIn Fence.wide m Tryd.prog 72 #[v] W fun e W' => e = .returned (.tuple #[]) ∧ ∃ l', SortP l l' ∧ W'.ownsRow w.heap.size 87 2 v l.length (cellsP l') ∧ W.grownBy W' v.ownBlock :=
        fun m v l W ho hl => callsIn_wide.2 (sorted_any w.heap.size v l W ho hl)
      by_cases h20 : r ≤ 20
      · have em : min r 20 = r := by omega
        have hh' := hhe; have hkr' := hkr
        rw [em] at hh' hkr'
        refine (callsIn_wide (n := 6)).1 ((splitsA_in Fence.wide (fun _ => trivial) rfl rfl 6 (by omega) capIn clipIn g r w (by omega) hr2 (by omega) h20 c h kr hc hh' hkr' hh (by omega) _ rfl (by omega) hok hsort).mono ?_)
        rintro e w' ⟨v, l', rfl, hs, ho, hb⟩
        have e1 := splP_raw (by omega) (by omega) hc hhe hkr hs
        subst e1
        refine ⟨v, rfl, ?_, hb⟩
        rw [hs.1.length_eq]; exact ho
      · have em : min r 20 = 20 := by omega
        have hh' := hhe; have hkr' := hkr
        rw [em] at hh' hkr'
        refine (callsIn_wide (n := 6)).1 ((splitsB_in Fence.wide (fun _ => trivial) rfl rfl 6 (by omega) capIn clipIn g r w (by omega) hr2 (by omega) (by omega) c h kr hc hh' hkr' hh (by omega) _ rfl (by omega) hok hsort).mono ?_)
        rintro e w' ⟨v, l', rfl, hs, ho, hb⟩
        have e1 := splP_raw (by omega) (by omega) hc hhe hkr hs
        subst e1
        refine ⟨v, rfl, ?_, hb⟩
        rw [hs.1.length_eq]; exact ho

theorem owns_slice {w : World} {base : Nat} {e : TypeId} {sz : Nat} {v : Value} {n : Nat} {xs : List Value} (h : w.ownsRow base e sz v n xs) (hn : 0 < n) : ∃ g cap, v = .slice (some ⟨g, 0, none⟩) n cap := by
  rcases h.2 with ⟨_, h0⟩ | ⟨g, cap, cur, hv, _⟩
  · omega
  · exact ⟨g, cap, hv⟩

theorem app2_info : (Tryd.prog.info? 87).map (fun i => (i.zero, i.size, i.bytes)) = some (some (.agg #[.int .i64 0, .int .i64 0]), 2, 16) := info_pair

/-- True up to a place -/
def truK (n : Nat) (h : Int) (k : Nat) : List (Int × Int) := firstsP ((List.range k).map (ptP n h))
theorem truK_succ (n : Nat) (h : Int) (k : Nat) : truK n h (k + 1) = if ptP n h k ∈ truK n h k then truK n h k else truK n h k ++ [ptP n h k] := by
  unfold truK; rw [List.range_succ, List.map_append]; exact firstsP_snoc _ _
theorem truK_len (n : Nat) (h : Int) (k : Nat) : (truK n h k).length ≤ k := by
  have := firstsP_len ((List.range k).map (ptP n h)); simpa [truK] using this
theorem klip_pt (r : Int) (a : Int) (h : 0 ≤ a) : klip a r = P.lim (kap r) a := by unfold klip P.lim; omega

theorem rowP_bound (p : Int × Int → Bool) (a k : Nat) : (rowP p a k).length ≤ k := by
  unfold rowP; have := List.length_filter_le p ((List.range k).map fun b : Nat => ((a : Int), (b : Int))); simpa using this
theorem gridK_bound (p : Int × Int → Bool) (h k : Nat) : (gridK p h k).length ≤ k * (h + 1) := by
  induction k with
  | zero => simp [gridK]
  | succ k ih => rw [gridK_succ, List.length_append]; have := rowP_bound p k (h + 1); rw [Nat.add_mul]; omega

end Go.Proofs.YtkkoooagamadjaaDoor

namespace Go.Proofs.YtkkoooagamadjaaDoor
open Go.RowKit

/-- a written list in new memory reads -/
theorem Reads.lit (w : World) (us : Array Value) (e : TypeId) (n cap : Nat) (hn : n = us.size) (hm : n ≤ maxLen) : Reads (w.alloc (.cells us e)) (.slice (some ⟨w.heap.size, 0, none⟩) n cap) us.toList := by
  refine .inr ⟨w.heap.size, 0, cap, by simp [hn], by simp, by simpa [hn] using hm, fun t x hx => ?_⟩
  rw [World.cell?_alloc_at _ _ _ _ rfl, Nat.zero_add]
  simpa using hx

theorem Reads.keep {w w' : World} {v : Value} {xs : List Value} (h : Reads w v xs) (hb : Below w.heap.size w w') : Reads w' v xs := h.below (Nat.le_refl _) hb

theorem ofL_02 : ofL [0, 2] = 5 := by decide +kernel
theorem listZ_5 : listZ 5 31 = [0, 2] := by decide +kernel
theorem first_3 : firstZ 3 = 7 := by decide +kernel

theorem ofL_bd (l : List Int) : 0 ≤ ofL l ∧ ofL l < 2147483648 := by
  rw [ofL_ofB]; have := ofB_lt fun j => decide ((j : Int) ∈ l); omega

/- sets of so many numbers -/
theorem listZ_first (n : Int) : ((listZ (firstZ n) 31).length : Int) = max 0 (min n 31) := by
  have hc := clamp_le n
  have key : ∀ k, k ≤ 31 → (listZ (firstZ n) k).length = min k (clamp n) := by
    intro k
    induction k with
    | zero => intro _; simp [listZ]
    | succ k ih =>
      intro hk
      have e := hasN_first n k (by omega)
      have ih' := ih (by omega)
      unfold listZ at *
      rw [List.range_succ, List.filter_append, List.map_append, List.length_append, ih']
      by_cases h : k < clamp n
      · simp [e, h]; omega
      · simp [e, h]; omega
  rw [key 31 (by omega)]
  unfold clamp at *
  omega

theorem within_first (n m : Int) : withinB (firstZ n) (firstZ m) = decide (min n 31 ≤ max 0 m) := by
  have hn := clamp_le n
  have hm := clamp_le m
  rw [Bool.eq_iff_iff]
  unfold withinB
  rw [List.all_eq_true, decide_eq_true_eq]
  constructor
  · intro h
    by_cases hc : clamp n ≤ clamp m
    · unfold clamp at *; omega
    · have := h (clamp m) (by simp; omega)
      rw [hasN_first n _ (by omega), hasN_first m _ (by omega)] at this
      simp at this; omega
  · intro h j hj
    have hj' : j < 31 := by simpa using hj
    rw [hasN_first n j hj', hasN_first m j hj']
    have : clamp n ≤ clamp m := by unfold clamp; omega
    by_cases h1 : j < clamp n
    · simp; omega
    · simp [h1]

theorem has_first (n : Int) : hasB (firstZ n) 3 = decide (3 < n) := by
  unfold hasB
  rw [if_pos (by omega)]
  rw [show (3 : Int).toNat = 3 from rfl, hasN_first n 3 (by omega)]
  rw [Bool.eq_iff_iff, decide_eq_true_eq, decide_eq_true_eq]
  unfold clamp; omega

theorem of_listZ (s : Int) : ofL (listZ s 31) = putZ (putZ s 31 true) (-1) false := by
  rw [putZ_out _ (-1) false (by omega), putZ_out s 31 true (by omega), ofL_ofB]
  have e : lo (lo s : Int) = lo s := by unfold lo; omega
  rw [e, lo_ofB]
  rw [ofB_congr (fun j => decide ((j : Int) ∈ listZ s 31)) (hasN s) (by
    intro j hj
    unfold listZ
    rw [Bool.eq_iff_iff, decide_eq_true_eq]
    simp only [List.mem_map, List.mem_filter, List.mem_range]
    constructor
    · rintro ⟨a, ⟨_, h2⟩, h3⟩
      have : a = j := by omega
      subst this; exact h2
    · intro h; exact ⟨j, ⟨hj, h⟩, rfl⟩)]

end Go.Proofs.YtkkoooagamadjaaDoor

namespace Go.Proofs.YtkkoooagamadjaaDoor
open Go.RowKit
attribute [local go_sem] eq_pair

theorem neq_pair (w : World) (a b c d : Int) : (Op.equalIn 10000 87 (.agg #[.int .i64 a, .int .i64 b]) (.agg #[.int .i64 c, .int .i64 d])).run Tryd.prog w = .ok (a == c && b == d) w := eq_pair a b c d w

/-- how far a number may be put -/
def outL (r : Int) : List Int := if r < 1 then [] else (List.range (kap (r - 1) + 1)).map fun i : Nat => (i : Int)

set_option maxHeartbeats 2000000 in
theorem outer_any (r : Int) (w : World) (hr2 : r ≤ 9223372036854775807) :
    Calls Tryd.prog 48 #[.int .i64 r] w fun e w' => ∃ v, e = .returned v ∧ w'.ownsRow w.heap.size 3 1 v (outL r).length (ints (outL r)) ∧ Below w.heap.size w w' := by
  by_cases hr0 : r < 1
  · have H : Hid (outL r = []) := by unfold Hid outL; rw [if_pos hr0]
    go_enter Tryd.func48, Tryd.ntmps48
    go_wp2
    go_ret
    exact ⟨_, rfl, by rw [H.out]; exact World.ownsRow_nil _ _ _ _, Below.refl _ w⟩
  · obtain ⟨h, hh⟩ : ∃ h, kap (r - 1) = h := ⟨_, rfl⟩
    have hle := kap_le (r - 1)
    rw [hh] at hle
    have HR : Hid (outL r = (List.range (h + 1)).map fun i : Nat => (i : Int)) := by unfold Hid outL; rw [if_neg hr0, hh]
    have HH := Lib.hid hh
    clear hh
    go_enter Tryd.func48, Tryd.ntmps48
    go_wp2_with fail
    refine (cap_any _ _).mono ?_; rintro e w' ⟨rfl, rfl⟩; rw [HH.out]
    go_wp2
    go_loopw [3, 4, 12] (fun v _ i wr => ∃ k : Nat, k ≤ h + 1 ∧ i = .int .i64 k ∧ wr.ownsRow w.heap.size 3 1 v k (ints ((List.range k).map fun i : Nat => (i : Int))) ∧ Below w.heap.size w wr) (fun _ _ i _ => h + 1 - (intOf i).toNat)
    case atStart => exact ⟨0, Nat.zero_le _, rfl, World.ownsRow_nil _ _ _ _, Below.refl _ _⟩
    case round =>
      obtain ⟨k, hk, rfl, hown, hb⟩ := hrel
      have hsz := hb.size
      by_cases hlt : k < h + 1
      · have p1 : (k : Int) < (h : Int) + 1 := by omega
        have HM : Hid (ints ((List.range (k + 1)).map fun i : Nat => (i : Int)) = ints ((List.range k).map fun i : Nat => (i : Int)) ++ [.int .i64 k]) := by unfold Hid ints; rw [List.range_succ]; simp
        go_wp2_with (at_builtin; refine app1 wr #[.int .i64 k] rfl _ _ 24 rfl w.heap.size 3 (.int .i64 0) 1 8 Tryd.underlying24 info_int rfl (by decide) (by decide) _ _ _ rfl (by exact hown) rfl (by simp) rfl (by simp [Value.oneCell']) (by omega) hsz ?_; intro v' w1 hown' hg' hb')
        go_roundw
        case rel => exact ⟨k + 1, by omega, by go_num, by rw [HM.out]; exact hown', hb.trans hb'⟩
        case measure => simp [intOf]; omega
      · obtain rfl : k = h + 1 := by omega
        have p1 : ¬ ((h + 1 : Nat) : Int) < (h : Int) + 1 := by omega
        go_wp2
        go_ret
        exact ⟨_, rfl, by rw [HR.out]; simpa using hown, hb⟩

theorem kap_3 : kap 3 = 7 := by decide +kernel
theorem spl_22 : splP 2 2 = [(0, 1), (1, 0)] := by decide +kernel
theorem spl_32 : splP 3 2 = [(0, 1), (1, 0), (1, 1)] := by decide +kernel

/-- a written list of pairs in new memory is owned -/
theorem owns_lit (w : World) (l : List (Int × Int)) (us : Array Value) (hu : us.toList = cellsP l) (hl : l.length ≤ 16) : (w.alloc (.cells us 87)).ownsRow w.heap.size 87 2 (.slice (some ⟨w.heap.size, 0, none⟩) l.length l.length) l.length (cellsP l) := by
  rw [← hu]
  exact World.ownsRow_lit w us l.length (Nat.le_refl _) (by unfold maxLen; omega) (by rw [← Array.length_toList, hu, cellsP_len])

end Go.Proofs.YtkkoooagamadjaaDoor
