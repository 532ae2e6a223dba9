/- Splits of package halve, where more writes are left than count. -/
import Derived.Test.YtjmggphnngffjaaHalve5
namespace Go.Proofs.Ytjmggphnngffjaa
open Go.RowKit Go.Shelf
open Go.ChangeMaps (setBlock heap_setBlock_same heap_setBlock_other frozen?_setBlock)
attribute [local go_sem] Oper.semAt_some

set_option maxRecDepth 10000 in
set_option maxHeartbeats 8000000 in
theorem splitsB_in (F : Fence) (hft : ∀ f, F.fn f) (hro : F.round = none) (hd : F.depth = none) (n : Nat) (hn : 6 ≤ n)
    (hcap : ∀ m r W, CallsIn F m Try.prog 49 #[.int .i64 r] W fun e w' => e = .returned (.int .i64 (kap r)) ∧ W = w')
    (hclip : ∀ m g r W, CallsIn F m Try.prog 69 #[.int .i64 g, .int .i64 r] W fun e w' => e = .returned (.int .i64 (klip g r)) ∧ W = w')
    (g r : Int) (w : World) (hr : 1 ≤ r) (hr2 : r ≤ 9223372036854775807) (hg : 1 ≤ g) (hrr : 20 < r) (c h kr : Nat) (hc : klip g r = c) (hh : kap (20 - 1) = h) (hkr : kap 20 = kr) (hh2 : h ≤ 1048575) (hc2 : c ≤ 2097151)
    (xs : List (Int × Int)) (hxs : xs = adj (rawP c h (!decide (c < kr)))) (hlen : xs.length ≤ 8388608) (hok : ∀ p ∈ xs, okP p)
    (hsort : ∀ m v l W, W.ownsRow w.heap.size 36 2 v l.length (cellsP l) → l.length ≤ 8388608 → CallsIn F m Try.prog 70 #[v] W fun e W' => e = .returned (.tuple #[]) ∧ ∃ l', SortP l l' ∧ W'.ownsRow w.heap.size 36 2 v l.length (cellsP l') ∧ W.grownBy W' v.ownBlock) :
    CallsIn F n Try.prog 50 #[.int .i64 g, .int .i64 r] w fun e w' => ∃ v l', e = .returned v ∧ SortP (firstsP xs) l' ∧ w'.ownsRow w.heap.size 36 2 v (firstsP xs).length (cellsP l') ∧ Below w.heap.size w w' := by
  have hf0 := hft 50
  have hf1 := hft 68
  have hf2 := hft 69
  have hf3 := hft 70
  have h1n : 1 ≤ n := by omega
  have h1n1 : 1 ≤ n - 1 - 1 := by omega
  have hmm := @run_makeMap Try.prog
  obtain ⟨i0, hi, hz0, hz1, hz2⟩ := info_parts info_pair
  have HT := Lib.hid hft
  clear hft
  have HXS := Lib.hid hxs
  clear hxs
  refine callsIn_of_wp_marks Try.func50 rfl hf0 ?_ hro
  simp only [Try.ntmps50, List.size_toArray, List.length_cons, List.length_nil, Nat.reduceAdd, Nat.reduceSub, Array.replicate_succ, Array.replicate_zero, List.push_toArray, List.append_toArray, List.nil_append, List.cons_append]
  gi_wp2_with (first
    | (gi_at_call 69; refine (hclip _ _ _ _).mono ?_; rintro e w' ⟨rfl, rfl⟩; rw [hc])
    | (gi_at_call 68; refine (splits_in F _ hf1 (HT.out _) hro (by omega) hcap _ _ (by omega) (by omega) _).mono ?_; rintro e w' ⟨rfl, rfl⟩; rw [hh]))
  have w0s : ((((((w.alloc (.cells #[.slice none 0 0] 78)).alloc (.map #[] 0)).alloc (.cells #[.map (some (w.heap.size + 1))] 98)).alloc (.cells #[.int .i64 c] 3)).alloc (.cells #[.int .i64 20] 3)).alloc (.cells #[.int .i64 h] 3)).heap.size = w.heap.size + 6 := by simp
  have m0 : Mid w [] (.slice none 0 0) #[] 0 (((w.alloc (.cells #[.slice none 0 0] 78)).alloc (.map #[] 0)).alloc (.cells #[.map (some (w.heap.size + 1))] 98)) := by
    have b1 := ((Boxed.new w 78 (.slice none 0 0)).alloc (.map #[] 0)).alloc (.cells #[.map (some (w.heap.size + 1))] 98)
    have b2 := Boxed.new ((w.alloc (.cells #[.slice none 0 0] 78)).alloc (.map #[] 0)) 98 (.map (some (w.heap.size + 1)))
    have b3 := World.alloc_heap_new (w.alloc (.cells #[.slice none 0 0] 78)) (.map #[] 0)
    simp only [World.size_alloc] at b2 b3
    refine ⟨b1, World.ownsRow_nil _ _ _ _, (Below.heap_alloc _ _ _ (by simp)).trans b3, b2, ⟨MapKept.stamped_empty 0, by simp, by simp, by simp⟩, (((Below.refl _ w).alloc (Nat.le_refl _) _).alloc (by simp) _).alloc (by simp; omega) _⟩
  have m1 : Mid w [] (.slice none 0 0) #[] 0 ((((((w.alloc (.cells #[.slice none 0 0] 78)).alloc (.map #[] 0)).alloc (.cells #[.map (some (w.heap.size + 1))] 98)).alloc (.cells #[.int .i64 c] 3)).alloc (.cells #[.int .i64 20] 3)).alloc (.cells #[.int .i64 h] 3)) :=
    ((m0.grown (World.grownBy_alloc _ _ none) (fun _ e => by cases e)).grown (World.grownBy_alloc _ _ none) (fun _ e => by cases e)).grown (World.grownBy_alloc _ _ none) (fun _ e => by cases e)
  have c1 : ((((((w.alloc (.cells #[.slice none 0 0] 78)).alloc (.map #[] 0)).alloc (.cells #[.map (some (w.heap.size + 1))] 98)).alloc (.cells #[.int .i64 c] 3)).alloc (.cells #[.int .i64 20] 3)).alloc (.cells #[.int .i64 h] 3)).cell? ⟨w.heap.size + 3, 0, none⟩ = some (.int .i64 c) := by go_simp
  have c2 : ((((((w.alloc (.cells #[.slice none 0 0] 78)).alloc (.map #[] 0)).alloc (.cells #[.map (some (w.heap.size + 1))] 98)).alloc (.cells #[.int .i64 c] 3)).alloc (.cells #[.int .i64 20] 3)).alloc (.cells #[.int .i64 h] 3)).cell? ⟨w.heap.size + 4, 0, none⟩ = some (.int .i64 20) := by go_simp
  have c3 : ((((((w.alloc (.cells #[.slice none 0 0] 78)).alloc (.map #[] 0)).alloc (.cells #[.map (some (w.heap.size + 1))] 98)).alloc (.cells #[.int .i64 c] 3)).alloc (.cells #[.int .i64 20] 3)).alloc (.cells #[.int .i64 h] 3)).cell? ⟨w.heap.size + 5, 0, none⟩ = some (.int .i64 h) := by go_simp
  obtain ⟨w0, hw0⟩ : ∃ w0, (((((w.alloc (.cells #[.slice none 0 0] 78)).alloc (.map #[] 0)).alloc (.cells #[.map (some (w.heap.size + 1))] 98)).alloc (.cells #[.int .i64 c] 3)).alloc (.cells #[.int .i64 20] 3)).alloc (.cells #[.int .i64 h] 3) = w0 := ⟨_, rfl⟩
  rw [hw0] at w0s m1 c1 c2 c3 ⊢
  clear hw0 m0
  have HS := splits_seq F (n - 1) (HT.out _) (HT.out _) (HT.out _) hro hd (by omega) hcap (B := w.heap.size + 3) (bo := w.heap.size) (bh := w.heap.size + 5) (bg := w.heap.size + 3) (br := w.heap.size + 4) w0 (by omega) (by omega) (by omega) (by omega) (by omega) (by omega) hh2 hc2 hkr c3 c1 c2
  rw [← HXS.out] at HS
  refine wpIn_rangeFunc_st hro h1n (gf := 78) (lb := #[.pointer (some ⟨w.heap.size + 5, 0, none⟩), .pointer (some ⟨w.heap.size + 3, 0, none⟩), .pointer (some ⟨w.heap.size + 4, 0, none⟩)]) rfl (HT.out _) (enters_of Try.func78 (by kernel_rfl) rfl)
    (w.heap.size + 3) w.heap.size HS (Below.refl _ _) (fun _ => rfl) (by omega) (by omega) ?free
    (fun pre W => ∃ v es clock, Mid w pre v es clock W) ?abides ?frees ⟨_, _, _, m1⟩ ?act ?assign ?body ?done
  case assign =>
    intro l x W K hK
    gi_wp2
    exact hK
  case free =>
    intro k _ u hu e
    rw [m1.box.cell] at hu
    cases hu
    simp [Value.ownBlock] at e
  case abides =>
    rintro s A A' row ⟨v, es, clock, m⟩ hg hr
    exact ⟨v, es, clock, m.grown hg (fun r e => ⟨by have := (hr r e).1; omega, (hr r e).2 v m.box.cell⟩)⟩
  case frees =>
    rintro s A ⟨v, es, clock, m⟩ r hr u hu e
    rw [m.box.cell] at hu
    cases hu
    have := (m.own.lt r e).2
    omega
  case body =>
    rintro l pre x W hsz ⟨v, es, clock, m⟩ hpre
    have hxm : x ∈ xs := hpre.subset (by simp)
    have hpl : pre.length + 1 ≤ xs.length := by have := hpre.length_le; simpa using this
    obtain ⟨v0, st, es1, es2, ck1, ck2, k1, k2, k3, k4, k5, hS2⟩ := seen_step (b := w.heap.size + 1) m.seen (hok x hxm)
    have hcl := cntP_le pre x
    have a0 : W.drew.heap[w.heap.size + 1]? = some (.map es clock) := m.map
    have a1 := heap_setBlock_same a0 (.map es1 ck1)
    have a2 := heap_setBlock_same a1 (.map es2 ck2)
    have hx1 : pairV x = .agg #[.int .i64 x.1, .int .i64 x.2] := rfl
    have e1 := k1 W.drew a0
    have e2 := k2 W.drew a0
    have e3 := k3 _ a1
    have e4 := k4 _ a1
    have e5 := k5 _ a2
    have g1 : W.drew.grownBy (setBlock W.drew (w.heap.size + 1) (.map es1 ck1)) (some (w.heap.size + 1)) := setBlock_grown a0
    have g2 : (setBlock W.drew (w.heap.size + 1) (.map es1 ck1)).grownBy (setBlock (setBlock W.drew (w.heap.size + 1) (.map es1 ck1)) (w.heap.size + 1) (.map es2 ck2)) (some (w.heap.size + 1)) := setBlock_grown a1
    rw [hx1] at e1 e2 e3 e5
    clear k1 k2 k3 k4 k5 hx1
    obtain ⟨W2, hW2⟩ : ∃ W2, setBlock W.drew (w.heap.size + 1) (.map es1 ck1) = W2 := ⟨_, rfl⟩
    rw [hW2] at e2 e3 e4 e5 g1 g2 a1 a2
    obtain ⟨W3, hW3⟩ : ∃ W3, setBlock W2 (w.heap.size + 1) (.map es2 ck2) = W3 := ⟨_, rfl⟩
    rw [hW3] at e4 e5 g2 a2
    clear hW2 hW3
    obtain ⟨q, hq⟩ : ∃ q : Nat, cntP pre x = q := ⟨_, rfl⟩
    rw [hq] at e1 e3 e4 e5 hcl
    have hq2 : q ≤ 8388608 := by omega
    have gd : W.grownBy W.drew none := ⟨rfl, rfl, rfl, Nat.le_refl _, fun _ _ _ => rfl⟩
    have b0 : w.heap.size < W.heap.size := m.box.lt
    have b1 : w.heap.size < W2.heap.size := Nat.lt_of_lt_of_le b0 g1.size
    have hb3 : Harb (fun k => w.heap.size + 3 ≤ k) w.heap.size W W3 :=
      (Harb.of_grown gd b0 (by simp) (fun r e => by cases e)).trans ((Harb.of_grown g1 b0 (by simp) (fun r e => by cases e; omega)).trans (Harb.of_grown g2 b1 (by simp) (fun r e => by cases e; omega)))
    have nm : v.ownBlock ≠ some (w.heap.size + 1) := own_not_map m.own m.map
    have m3 : Boxed W3 w.heap.size 78 v ∧ W3.ownsRow w.heap.size 36 2 v (firstsP pre).length (cellsP (firstsP pre)) ∧ Boxed W3 (w.heap.size + 2) 98 (.map (some (w.heap.size + 1))) ∧ Below w.heap.size w W3 :=
      ⟨((m.box.kept gd (by simp)).kept g1 (by simp)).kept g2 (by simp), ((m.own.kept gd (by cases v.ownBlock <;> simp)).kept g1 (.inr nm)).kept g2 (.inr nm), ((m.mbox.kept gd (by simp)).kept g1 (by simp)).kept g2 (by simp),
        ((m.below.grown gd m.below.size (fun r e => by cases e)).grown g1 (by have := m.below.size; exact this) (fun r e => by cases e; omega)).grown g2 (by have := m.below.size; omega) (fun r e => by cases e; omega)⟩
    obtain ⟨b3, o3, mb3, bl3⟩ := m3
    have hfl := firstsP_len pre
    have cm : W.cell? ⟨w.heap.size + 1 + 1, 0, none⟩ = some (.map (some (w.heap.size + 1))) := m.mbox.cell
    have cm3 : W3.cell? ⟨w.heap.size + 1 + 1, 0, none⟩ = some (.map (some (w.heap.size + 1))) := mb3.cell
    have co3 := b3.cell
    have cf3 := b3.frozen
    have hmx : Try.prog.follows .mixedOrders = true := by kernel_rfl
    have M3 : Mid w pre v es clock W3 → True := fun _ => trivial
    clear M3
    have HB3 := Lib.hid hb3
    have HS2 := Lib.hid hS2
    have HA2 := Lib.hid a2
    have HBL := Lib.hid bl3
    have HB := Lib.hid b3
    have HO := Lib.hid o3
    have HMB := Lib.hid mb3
    have HSE := Lib.hid m.seen
    clear hb3 hS2 a2 bl3 b3 o3 mb3 g1 g2 a0 a1 gd m
    have hwr : IntKind.i64.wrap ((q : Int) + 1) = (q : Int) + 1 := IntWalk.i64_in _ ⟨by omega, by omega⟩
    gi_wp2
    rename_i K aK
    have HK : K { tmps := frE w.heap.size g r 20 c x q st v0, defers := [] } W3 := by
      apply aK
      simp only [frE]
      by_cases hq0 : q = 0
      · have HN := Lib.hid (firstsP_new pre x (by rw [hq]; exact hq0))
        have hqt : ((q : Int) + 1 == 1) = true := by simp; omega
        clear hq hq0
        have hb1 : (firstsP pre).length + 1 ≤ maxLen := by unfold maxLen; omega
        have hb2 : ((firstsP pre).length + 1) * 16 ≤ 140737488355328 := by omega
        have hb3 : w.heap.size ≤ W3.heap.size := HBL.out.size
        gi_wp2_with (gi_at_builtin; refine appendIn_at _ rfl _ _ 78 rfl w.heap.size 36 i0 (.agg #[.int .i64 0, .int .i64 0]) 2 16 Try.underlying78 hi hz0 hz1 hz2 rfl (by decide) _ _ _ rfl (HO.out.alloc _) ⟨W3.heap.size, 0, none⟩ 1 1 [.int .i64 x.1, .int .i64 x.2] rfl rfl (cell_two_new _ _ _ _) (by simp [Value.oneCell']) hb1 hb2 (by simp; omega) ?_; intro v' w1 hown' hgrow hat; obtain ⟨g', cap', hv'⟩ := ownsRow_succ hown'; obtain ⟨hv1, hv2, hv3⟩ := Mid.app HB.out HO.out HMB.out HBL.out HS2.out HA2.out HN.out hown' hgrow hat; subst hv'; have hc1 := hv1.cell; have hf1 := hv1.frozen; have HV2 := Lib.hid hv2; have HV3 := Lib.hid hv3; clear hv2 hv3 hown' hgrow hat)
        exact ⟨HB3.out.trans HV3.out, _, _, _, HV2.out⟩
      · have HN := Lib.hid (firstsP_old pre x (by rw [hq]; exact hq0))
        have hqt : ((q : Int) + 1 == 1) = false := by simp; omega
        clear hq hq0
        gi_wp2
        exact ⟨HB3.out, v, es2, ck2, ⟨HB.out, by rw [HN.out]; exact HO.out, HA2.out, HMB.out, HS2.out, HBL.out⟩⟩
    clear aK
    gi_region_with_o (fail)
    all_goals exact HK
  case done =>
    rintro D W hD hfD ⟨v, es, clock, m⟩ hK
    have hfl := firstsP_len xs
    have co := m.box.cell
    have hne1 : some w.heap.size ≠ v.ownBlock := m.box.not_row (by decide) m.own
    have hne2 : v.ownBlock ≠ some D := hfD v co
    have hDl : D < W.heap.size := (Array.getElem?_eq_some_iff.1 hK).1
    have hS := Lib.hid (hsort (n - 1) v (firstsP xs) W m.own (by omega))
    have hB := Lib.hid m.box
    have hM := Lib.hid m.below
    clear m
    gi_wp2_with (gi_at_call 70; refine (hS.out).mono ?_; rintro e W4 ⟨rfl, l', hsp, hown, hg4⟩; have hb4 := (hB.out.kept hg4 hne1).cell)
    have hK4 : W4.heap[D]? = some (.deferred (some [])) := (hg4.block D hDl (fun e => hne2 e.symm)).trans hK
    have hbl4 : Below w.heap.size w W4 := hM.out.grown hg4 hM.out.size (fun k e => by have := (hown.lt k e).1; omega)
    refine ⟨by simp, .inl ⟨_, _, rfl, run_takeDeferred hK4, ?_⟩⟩
    exact ⟨_, results_tmp rfl _ _ _, v, l', rfl, hsp, ownsRow_putObj hown _ hK4 rfl, hbl4.grown (grownBy_putObj' W4 D _) hbl4.size (fun k e => by cases e; omega)⟩

end Go.Proofs.Ytjmggphnngffjaa
