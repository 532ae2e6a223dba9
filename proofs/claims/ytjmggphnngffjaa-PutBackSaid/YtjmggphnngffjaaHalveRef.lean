/- Contracts of Splits and Outer of package halve, and of Has, True, Splits, Same of warderref21. -/
import Derived.Test.YtjmggphnngffjaaHalvePlain
import Derived.Test.YtjmggphnngffjaaHalve6
import Derived.Test.YtjmggphnngffjaaBitsL
namespace Go.Proofs.Ytjmggphnngffjaa
open Go.RowKit

set_option maxHeartbeats 400000 in
/-- Splits of package halve, for all whole numbers of 64 bits -/
theorem splits_any (g r : Int) (w : World) (hr2 : r ≤ 9223372036854775807) :
    Calls Try.prog 50 #[.int .i64 g, .int .i64 r] w fun e w' => ∃ v, e = .returned v ∧ w'.ownsRow w.heap.size 36 2 v (splP g r).length (cellsP (splP g r)) ∧ Below w.heap.size w w' := by
  by_cases hr : r < 1
  · have H : Hid (splP g r = []) := by unfold Hid splP; rw [if_pos (.inl hr)]
    have hm := @run_makeMap Try.prog
    go_enter Try.func50, Try.ntmps50
    go_wp2
    go_ret
    exact ⟨_, rfl, by rw [H.out]; exact World.ownsRow_nil _ _ _ _, (Below.refl _ w).alloc (Nat.le_refl _) _⟩
  · by_cases hg : g < 1
    · have H : Hid (splP g r = []) := by unfold Hid splP; rw [if_pos (.inr hg)]
      have hm := @run_makeMap Try.prog
      have hr' : 1 ≤ r := by omega
      go_enter Try.func50, Try.ntmps50
      go_wp2
      go_ret
      exact ⟨_, rfl, by rw [H.out]; exact World.ownsRow_nil _ _ _ _, (Below.refl _ w).alloc (Nat.le_refl _) _⟩
    · obtain ⟨b0, b1, b2⟩ := klip_bd g r
      obtain ⟨c, hc⟩ : ∃ c : Nat, klip g r = c := ⟨(klip g r).toNat, by omega⟩
      have hh := kap_le (min r 20 - 1)
      obtain ⟨h, hhe⟩ : ∃ h, kap (min r 20 - 1) = h := ⟨_, rfl⟩
      obtain ⟨kr, hkr⟩ : ∃ kr, kap (min r 20) = kr := ⟨_, rfl⟩
      rw [hhe] at hh
      have hlen := Nat.le_trans (adj_len (rawP c h (!decide (c < kr)))) (rawP_len _ _ _)
      have hok : ∀ p ∈ adj (rawP c h (!decide (c < kr))), okP p := fun p hp => by
        rw [adj_mem _ (fun hc => by obtain ⟨u, v, _, _, e⟩ := raw_box _ _ _ _ hc; simp at e)] at hp
        obtain ⟨u, v, hu, hv, rfl⟩ := raw_box _ _ _ _ hp
        exact ⟨WalkArith.wf_i64 ⟨by dsimp only; omega, by dsimp only; omega⟩, WalkArith.wf_i64 ⟨by dsimp only; omega, by dsimp only; omega⟩⟩
      have hsort : ∀ m v l W, W.ownsRow w.heap.size 36 2 v l.length (cellsP l) → l.length ≤ 8388608 → CallsIn Fence.wide m Try.prog 70 #[v] W fun e W' => e = .returned (.tuple #[]) ∧ ∃ l', SortP l l' ∧ W'.ownsRow w.heap.size 36 2 v l.length (cellsP l') ∧ W.grownBy W' v.ownBlock :=
        fun m v l W ho hl => callsIn_wide.2 (sorted_any w.heap.size v l W ho hl)
      by_cases h20 : r ≤ 20
      · have em : min r 20 = r := by omega
        have hh' := hhe; have hkr' := hkr
        rw [em] at hh' hkr'
        refine (callsIn_wide (n := 6)).1 ((splitsA_in Fence.wide (fun _ => trivial) rfl rfl 6 (by omega) capIn clipIn g r w (by omega) hr2 (by omega) h20 c h kr hc hh' hkr' hh (by omega) _ rfl (by omega) hok hsort).mono ?_)
        rintro e w' ⟨v, l', rfl, hs, ho, hb⟩
        have e1 := splP_raw (by omega) (by omega) hc hhe hkr hs
        subst e1
        refine ⟨v, rfl, ?_, hb⟩
        rw [hs.1.length_eq]; exact ho
      · have em : min r 20 = 20 := by omega
        have hh' := hhe; have hkr' := hkr
        rw [em] at hh' hkr'
        refine (callsIn_wide (n := 6)).1 ((splitsB_in Fence.wide (fun _ => trivial) rfl rfl 6 (by omega) capIn clipIn g r w (by omega) hr2 (by omega) (by omega) c h kr hc hh' hkr' hh (by omega) _ rfl (by omega) hok hsort).mono ?_)
        rintro e w' ⟨v, l', rfl, hs, ho, hb⟩
        have e1 := splP_raw (by omega) (by omega) hc hhe hkr hs
        subst e1
        refine ⟨v, rfl, ?_, hb⟩
        rw [hs.1.length_eq]; exact ho

theorem owns_slice {w : World} {base : Nat} {e : TypeId} {sz : Nat} {v : Value} {n : Nat} {xs : List Value} (h : w.ownsRow base e sz v n xs) (hn : 0 < n) : ∃ g cap, v = .slice (some ⟨g, 0, none⟩) n cap := by
  rcases h.2 with ⟨_, h0⟩ | ⟨g, cap, cur, hv, _⟩
  · omega
  · exact ⟨g, cap, hv⟩

set_option maxHeartbeats 1000000 in
theorem rpHas_any (base : Nat) (v : Value) (l : List (Int × Int)) (a b : Int) (w : World) (hown : w.ownsRow base 36 2 v l.length (cellsP l)) (hl : l.length ≤ 8388608) :
    Calls Try.prog 67 #[v, .int .i64 a, .int .i64 b] w fun e w' => e = .returned (.bool (decide ((a, b) ∈ l))) ∧ w = w' := by
  by_cases h0 : l.length = 0
  · have hl0 : l = [] := List.length_eq_zero_iff.1 h0
    subst hl0
    rcases hown.2 with ⟨rfl, _⟩ | ⟨g, cap, cur, rfl, _⟩
    all_goals
      go_enter Try.func67, Try.ntmps67
      go_wp2
      refine wp_loop_rounds 1 ?_
      rw [rounds_succ]
      go_wp2
      go_ret
      exact ⟨ret_bool (by simp), rfl⟩
  · obtain ⟨g, cap, rfl⟩ := owns_slice hown (by omega)
    obtain ⟨n, hn⟩ : ∃ n, l.length = n := ⟨_, rfl⟩
    have HN := Lib.hid hn
    rw [hn] at hown hl h0 ⊢
    have HW := Lib.hid hown
    clear hn hown
    go_enter Try.func67, Try.ntmps67
    go_wp2
    go_loop [7] (fun i => ∃ k : Nat, k ≤ n ∧ i = .int .i64 k ∧ Hid ((a, b) ∉ l.take k)) (fun i => n - (intOf i).toNat)
    case atStart => exact ⟨0, Nat.zero_le _, rfl, by unfold Hid; simp⟩
    case round =>
      obtain ⟨k, hk, rfl, HM⟩ := hrel
      by_cases hlt : k < n
      · have hkl : k < l.length := by rw [HN.out]; exact hlt
        obtain ⟨x, hx⟩ : ∃ x, l[k]? = some x := ⟨_, List.getElem?_eq_getElem hkl⟩
        have cx := cellsP_get _ _ _ hx
        have c1 : w.cell? ⟨g, k * 2, none⟩ = some (.int .i64 x.1) := by rw [HW.out.cellAt _ (by omega)]; exact cx.1
        have c2 : w.cell? ⟨g, k * 2 + 1, none⟩ = some (.int .i64 x.2) := by rw [HW.out.cellAt _ (by omega)]; exact cx.2
        have p1 : (k : Int) < (n : Int) := by omega
        have HX := Lib.hid hx
        clear cx hx
        have next : ¬ (x.1 = a ∧ x.2 = b) → Hid ((a, b) ∉ l.take (k + 1)) := fun hne => by
          unfold Hid
          rw [List.take_succ_eq_append_getElem hkl]
          have : l[k] = x := by have := HX.out; rw [List.getElem?_eq_getElem hkl] at this; exact Option.some.inj this
          rw [this]
          intro hc
          rcases List.mem_append.1 hc with h | h
          · exact HM.out h
          · simp at h; exact hne ⟨by rw [← h], by rw [← h]⟩
        by_cases t1 : x.1 = a
        · by_cases t2 : x.2 = b
          · have HF : Hid (decide ((a, b) ∈ l) = true) := by
              unfold Hid; apply decide_eq_true
              have := List.mem_of_getElem? HX.out
              rw [show x = (a, b) from Prod.ext t1 t2] at this; exact this
            have t1' : (x.1 == a) = true := by simp [t1]
            have t2' : (x.2 == b) = true := by simp [t2]
            clear t1 t2 next
            go_wp2
            go_ret
            exact ⟨ret_bool (by rw [HF.out]), rfl⟩
          · have HS := next (fun h => t2 h.2)
            have t1' : (x.1 == a) = true := by simp [t1]
            have t2' : (x.2 == b) = false := by simp [t2]
            clear t1 t2 next
            go_wp2
            go_round
            case rel => exact ⟨k + 1, by omega, by go_num, HS⟩
            case measure => simp [intOf]; omega
        · have HS := next (fun h => t1 h.1)
          have t1' : (x.1 == a) = false := by simp [t1]
          clear t1 next
          go_wp2
          go_round
          case rel => exact ⟨k + 1, by omega, by go_num, HS⟩
          case measure => simp [intOf]; omega
      · obtain rfl : k = n := by omega
        have HF : Hid (decide ((a, b) ∈ l) = false) := by
          unfold Hid; apply decide_eq_false
          have := HM.out; rw [List.take_of_length_le (by rw [HN.out]; exact Nat.le_refl _)] at this; exact this
        go_wp2
        go_ret
        exact ⟨ret_bool (by rw [HF.out]), rfl⟩

theorem app2_info : (Try.prog.info? 36).map (fun i => (i.zero, i.size, i.bytes)) = some (some (.agg #[.int .i64 0, .int .i64 0]), 2, 16) := info_pair

/-- True up to a place -/
def truK (n : Nat) (h : Int) (k : Nat) : List (Int × Int) := firstsP ((List.range k).map (ptP n h))
theorem truK_succ (n : Nat) (h : Int) (k : Nat) : truK n h (k + 1) = if ptP n h k ∈ truK n h k then truK n h k else truK n h k ++ [ptP n h k] := by
  unfold truK; rw [List.range_succ, List.map_append]; exact firstsP_snoc _ _
theorem truK_len (n : Nat) (h : Int) (k : Nat) : (truK n h k).length ≤ k := by
  have := firstsP_len ((List.range k).map (ptP n h)); simpa [truK] using this
theorem klip_pt (r : Int) (a : Int) (h : 0 ≤ a) : klip a r = P.lim (kap r) a := by unfold klip P.lim; omega

set_option maxHeartbeats 2000000 in
theorem rpTrue_any (n : Nat) (r : Int) (w : World) (hn : n ≤ 4194304) (hr : -9223372036854775807 ≤ r) (hr2 : r ≤ 9223372036854775807) :
    Calls Try.prog 66 #[.int .i64 n, .int .i64 r] w fun e w' => ∃ v, e = .returned v ∧ w'.ownsRow w.heap.size 36 2 v (truP n r).length (cellsP (truP n r)) ∧ Below w.heap.size w w' := by
  obtain ⟨h, hh⟩ : ∃ h, kap (r - 1) = h := ⟨_, rfl⟩
  have HT : Hid (truP n r = truK n h n) := by unfold Hid truP truK; rw [hh]; simp
  have HK : Hid (∀ a : Int, 0 ≤ a → klip a (r - 1) = P.lim h a) := by unfold Hid; intro a ha; rw [klip_pt _ _ ha, hh]
  clear hh
  go_enter Try.func66, Try.ntmps66
  go_wp2
  go_loopw [5, 6, 7, 8] (fun v i _ _ wr => ∃ k : Nat, k ≤ n ∧ i = .int .i64 k ∧ wr.ownsRow w.heap.size 36 2 v (truK n h k).length (cellsP (truK n h k)) ∧ Below w.heap.size w wr) (fun _ i _ _ _ => n - (intOf i).toNat)
  case atStart => exact ⟨0, Nat.zero_le _, rfl, World.ownsRow_nil _ _ _ _, Below.refl _ _⟩
  case round =>
    obtain ⟨k, hk, rfl, hown, hb⟩ := hrel
    have hsz := hb.size
    have hll := truK_len n h k
    by_cases hlt : k < n
    · have p1 : (k : Int) < (n : Int) := by omega
      have E1 := Lib.hid (HK.out k (by omega))
      have E2 := Lib.hid (HK.out ((n : Int) - 1 - k) (by omega))
      have EP : Hid (ptP n h k = (P.lim h k, P.lim h ((n : Int) - 1 - k))) := Lib.hid rfl
      obtain ⟨u, hu⟩ : ∃ u, P.lim h k = u := ⟨_, rfl⟩
      obtain ⟨z, hz⟩ : ∃ z, P.lim h ((n : Int) - 1 - k) = z := ⟨_, rfl⟩
      rw [hu] at E1 EP
      rw [hz] at E2 EP
      have HS := Lib.hid (truK_succ n h k)
      rw [EP.out] at HS
      have HH := Lib.hid (rpHas_any w.heap.size _ (truK n h k) u z wr hown (by omega))
      clear hu hz
      go_wp2_with fail
      refine (rclip_any _ _ _).mono ?_; rintro e w' ⟨rfl, rfl⟩; rw [E1.out]
      go_wp2_with fail
      refine (rclip_any _ _ _).mono ?_; rintro e w' ⟨rfl, rfl⟩; rw [E2.out]
      go_wp2_with fail
      refine HH.out.mono ?_
      rintro e w' ⟨rfl, rfl⟩
      by_cases hin : (u, z) ∈ truK n h k
      · have HS' : Hid (truK n h (k + 1) = truK n h k) := by unfold Hid; rw [HS.out, if_pos hin]
        rw [decide_eq_true hin]
        clear hin
        go_wp2
        go_roundw
        case rel => exact ⟨k + 1, by omega, by go_num, by rw [HS'.out]; exact hown, hb⟩
        case measure => simp [intOf]; omega
      · have HS' : Hid (truK n h (k + 1) = truK n h k ++ [(u, z)]) := by unfold Hid; rw [HS.out, if_neg hin]
        rw [decide_eq_false hin]
        clear hin
        go_wp2_with (at_builtin; refine app1 wr #[.int .i64 u, .int .i64 z] rfl _ _ 78 rfl w.heap.size 36 (.agg #[.int .i64 0, .int .i64 0]) 2 16 Try.underlying78 info_pair rfl (by decide) (by decide) _ _ _ rfl (by exact hown) rfl (by simp) rfl (by simp [Value.oneCell']) (by omega) hsz ?_; intro v' w1 hown' hg' hb')
        go_roundw
        case rel => exact ⟨k + 1, by omega, by go_num, by rw [HS'.out, cellsP_snoc, List.length_append]; exact hown', hb.trans hb'⟩
        case measure => simp [intOf]; omega
    · obtain rfl : k = n := by omega
      go_wp2
      go_ret
      exact ⟨_, rfl, by rw [HT.out]; exact hown, hb⟩

theorem rowP_bound (p : Int × Int → Bool) (a k : Nat) : (rowP p a k).length ≤ k := by
  unfold rowP; have := List.length_filter_le p ((List.range k).map fun b : Nat => ((a : Int), (b : Int))); simpa using this
theorem gridK_bound (p : Int × Int → Bool) (h k : Nat) : (gridK p h k).length ≤ k * (h + 1) := by
  induction k with
  | zero => simp [gridK]
  | succ k ih => rw [gridK_succ, List.length_append]; have := rowP_bound p k (h + 1); rw [Nat.add_mul]; omega

set_option maxHeartbeats 4000000 in
/-- Splits of warderref21, where at most six writes are left -/
theorem rpSplits_any (g r : Int) (w : World) (hr2 : r ≤ 6) :
    Calls Try.prog 48 #[.int .i64 g, .int .i64 r] w fun e w' => ∃ v, e = .returned v ∧ w'.ownsRow w.heap.size 36 2 v (refP g r).length (cellsP (refP g r)) ∧ Below w.heap.size w w' := by
  by_cases hr0 : r < 1
  · have H : Hid (refP g r = []) := by unfold Hid refP; rw [if_pos (.inl hr0)]
    go_enter Try.func48, Try.ntmps48
    go_wp2
    go_ret
    exact ⟨_, rfl, by rw [H.out]; exact World.ownsRow_nil _ _ _ _, Below.refl _ w⟩
  · by_cases hg : g < 1
    · have H : Hid (refP g r = []) := by unfold Hid refP; rw [if_pos (.inr hg)]
      go_enter Try.func48, Try.ntmps48
      go_wp2
      go_ret
      exact ⟨_, rfl, by rw [H.out]; exact World.ownsRow_nil _ _ _ _, Below.refl _ w⟩
    · obtain ⟨b0, b1, b2⟩ := klip_bd g r
      obtain ⟨c, hc⟩ : ∃ c : Nat, klip g r = c := ⟨(klip g r).toNat, by omega⟩
      have hd := kap_dbl r (by omega) (by omega)
      have hle : kap (r - 1) ≤ 31 := by
        have h1 : kap (r - 1) ≤ 2 ^ 5 - 1 := by
          unfold kap; have : (2 : Nat) ^ kapE (r - 1) ≤ 2 ^ 5 := Nat.pow_le_pow_right (by omega) (by unfold kapE; omega); omega
        omega
      obtain ⟨h, hh⟩ : ∃ h, kap (r - 1) = h := ⟨_, rfl⟩
      obtain ⟨kr, hkr⟩ : ∃ kr, kap r = kr := ⟨_, rfl⟩
      rw [hh, hkr] at hd
      rw [hh] at hle
      rw [hc, hkr] at b1
      obtain ⟨m, hm⟩ : ∃ m : Nat, (if c = kr then 3 * c + 3 else c) = m := ⟨_, rfl⟩
      obtain ⟨p, hp⟩ : ∃ p : Int × Int → Bool, p = fun x => decide (x ∈ truP m r) := ⟨_, rfl⟩
      have HP : Hid (∀ a b : Int, p (a, b) = decide ((a, b) ∈ truP m r)) := by unfold Hid; intro a b; rw [hp]
      have HR : Hid (refP g r = gridK p h (h + 1)) := by
        unfold Hid refP
        rw [if_neg (by omega), hc, hkr, hh, hp, ← hm]
        unfold gridP
        by_cases hck : c = kr
        · subst hck; simp
        · rw [if_neg (by omega), if_neg hck]
      have hlen : (truP m r).length ≤ 8388608 := by
        have : (truP m r).length ≤ m := by unfold truP; have := firstsP_len ((List.range (m : Int).toNat).map (ptP m (kap (r - 1)))); simpa using this
        split at hm <;> omega
      have HC := Lib.hid hc
      have HK := Lib.hid hkr
      have HH := Lib.hid hh
      have HT := fun w => Lib.hid (rpTrue_any m r w (by split at hm <;> omega) (by omega) (by omega))
      have hcm : (c = kr ∧ m = 3 * c + 3) ∨ (c ≠ kr ∧ m = c) := by split at hm <;> omega
      have hcc : c ≤ 63 := by omega
      clear hc hkr hh hp hm b0 b2 hd
      rcases hcm with ⟨e1, e2⟩ | ⟨e1, e2⟩
      case' inl => have t1 : ((c : Int) == (kr : Int)) = true := by simp [e1]
      case' inr => have t1 : ((c : Int) == (kr : Int)) = false := by simp; omega
      case' inl => have e3 : (3 : Int) * (c : Int) + 3 = (m : Int) := by omega
      case' inr => have e3 : (c : Int) = (m : Int) := by omega
      all_goals
        clear e1 e2
        have HE := Lib.hid e3
        clear e3
        go_enter Try.func48, Try.ntmps48
        go_wp2_with fail
        refine (rclip_any _ _ _).mono ?_; rintro e w' ⟨rfl, rfl⟩; rw [HC.out]
        go_wp2_with fail
        refine (rcap_any _ _).mono ?_; rintro e w' ⟨rfl, rfl⟩; rw [HK.out]
        go_wp2_with fail
        rw [HE.out]
        refine (HT _).out.mono ?_
        rintro e w2 ⟨v, rfl, hown, hb⟩
        have HO := Lib.hid hown
        have hsz := hb.size
        have HB := Lib.hid hb
        clear hown hb
        go_wp2
        go_loopw [5, 8, 9] (fun o a _ wr => ∃ k : Nat, k ≤ h + 1 ∧ a = .int .i64 k ∧ Hid (wr.ownsRow w2.heap.size 36 2 o (gridK p h k).length (cellsP (gridK p h k))) ∧ Hid (Below w2.heap.size w2 wr)) (fun _ a _ _ => h + 1 - (intOf a).toNat)
        case atStart => exact ⟨0, Nat.zero_le _, rfl, World.ownsRow_nil _ _ _ _, Below.refl _ _⟩
        case round =>
          obtain ⟨k, hk, rfl, hown1, hb1⟩ := hrel
          have hsz1 := hown1.out
          have hgb := gridK_bound p h k
          have hkk : k * (h + 1) ≤ 1024 := Nat.le_trans (Nat.mul_le_mul hk (Nat.le_refl _)) (by have : (h + 1) * (h + 1) ≤ 32 * 32 := Nat.mul_le_mul (by omega) (by omega); omega)
          clear hsz1
          by_cases hlt : k < h + 1
          · have p1 : (k : Int) ≤ (h : Int) := by omega
            have HG := Lib.hid (gridK_succ p h k)
            go_wp2_with fail
            refine (rcap_any _ _).mono ?_; rintro e w' ⟨rfl, rfl⟩; rw [HH.out]
            go_wp2
            go_loopw [5, 9] (fun o b w4 => ∃ j : Nat, j ≤ h + 1 ∧ b = .int .i64 j ∧ Hid (w4.ownsRow w2.heap.size 36 2 o (gridK p h k ++ rowP p k j).length (cellsP (gridK p h k ++ rowP p k j))) ∧ Hid (Below w2.heap.size w2 w4)) (fun _ b _ => h + 1 - (intOf b).toNat)
            case atStart => exact ⟨0, Nat.zero_le _, rfl, by simpa [rowP] using hown1, hb1⟩
            case round =>
              obtain ⟨j, hj, rfl, hown2, hb2⟩ := hrel
              have hrb := rowP_bound p k j
              have hlen2 : (gridK p h k ++ rowP p k j).length ≤ 2048 := by rw [List.length_append]; omega
              have hsz2 := hb2.out.size
              by_cases hlt2 : j < h + 1
              · have p2 : (j : Int) ≤ (h : Int) := by omega
                have HS := Lib.hid (rowP_succ p k j)
                have HH2 := Lib.hid (rpHas_any w.heap.size v (truP m r) k j _ (owns_below HO.out hb2.out) hlen)
                have HPk := Lib.hid (HP.out k j)
                go_wp2_with fail
                refine (rcap_any _ _).mono ?_; rintro e w' ⟨rfl, rfl⟩; rw [HH.out]
                go_wp2_with fail
                refine HH2.out.mono ?_
                rintro e w' ⟨rfl, rfl⟩
                rw [← HPk.out]
                cases hpk : p ((k : Int), (j : Int))
                · have HS' : Hid (gridK p h k ++ rowP p k (j + 1) = gridK p h k ++ rowP p k j) := by unfold Hid; rw [HS.out, hpk]; simp
                  clear hpk
                  go_wp2
                  go_roundw
                  case rel => exact ⟨j + 1, by omega, by go_num, by rw [HS'.out]; exact hown2, hb2⟩
                  case measure => simp [intOf]; omega
                · have HS' : Hid (gridK p h k ++ rowP p k (j + 1) = (gridK p h k ++ rowP p k j) ++ [((k : Int), (j : Int))]) := by unfold Hid; rw [HS.out, hpk]; simp
                  clear hpk
                  have hb3 : ((gridK p h k ++ rowP p k j).length + 1) * 16 ≤ 140737488355328 := by omega
                  go_wp2_with (at_builtin; refine app1 _ #[.int .i64 k, .int .i64 j] rfl _ _ 78 rfl w2.heap.size 36 (.agg #[.int .i64 0, .int .i64 0]) 2 16 Try.underlying78 info_pair rfl (by decide) (by decide) _ _ _ rfl (by exact hown2.out) rfl (by simp) rfl (by simp [Value.oneCell']) hb3 hsz2 ?_; intro v' w1 hown' hg' hb')
                  go_roundw
                  case rel => exact ⟨j + 1, by omega, by go_num, by unfold Hid; rw [HS'.out, cellsP_snoc, List.length_append]; exact hown', Lib.hid (hb2.out.trans hb')⟩
                  case measure => simp [intOf]; omega
              · obtain rfl : j = h + 1 := by omega
                have p2 : ¬ ((h + 1 : Nat) : Int) ≤ (h : Int) := by omega
                go_wp2_with fail
                refine (rcap_any _ _).mono ?_; rintro e w' ⟨rfl, rfl⟩; rw [HH.out]
                go_wp2
                go_roundw
                case rel => exact ⟨k + 1, by omega, by go_num, by rw [HG.out]; exact hown2, hb2⟩
                case measure => simp [intOf]; omega
          · obtain rfl : k = h + 1 := by omega
            have p1 : ¬ ((h + 1 : Nat) : Int) ≤ (h : Int) := by omega
            go_wp2_with fail
            refine (rcap_any _ _).mono ?_; rintro e w' ⟨rfl, rfl⟩; rw [HH.out]
            go_wp2
            go_ret
            exact ⟨_, rfl, by rw [HR.out]; exact owns_mono hown1.out hsz, HB.out.trans (hb1.out.mono hsz)⟩

end Go.Proofs.Ytjmggphnngffjaa
