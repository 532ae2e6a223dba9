/- eval: so, cmp.Compare, val, the closure of Holds. eval: the asker: push, pop. Contracts of the functions Has, With, Without of package bits and Has of warderref14, for all whole numbers of 64 bits. -/
import Derived.Test.YtadjnfpomjopkaaGreatSm04
import Derived.Test.YtadjnfpomjopkaaGreatSm03
import Derived.Test.YtadjnfpomjopkaaGreatSm05
import Derived.Test.YtadjnfpomjopkaaGreatSm02

namespace Go.Proofs.YtadjnfpomjopkaaGreat
open Go.RowKit

/-- how a state lies -/
structure StR (w : World) (v0 v3 v4 : Value) (s : Sta) : Prop where
  vals : RowE intE 1 w v0 s.vals
  did : RowE intE 1 w v3 s.did
  cnt : RowE intE 1 w v4 s.cnt
theorem StR.below {w w' : World} {v0 v3 v4 : Value} {s : Sta} (h : StR w v0 v3 v4 s) (hb : Below w.heap.size w w') : StR w' v0 v3 v4 s :=
  ⟨h.vals.below intE_keep hb, h.did.below intE_keep hb, h.cnt.below intE_keep hb⟩
/-- what is thrown where a formula is none -/
def lostV : Value := .iface 158 (.agg #[])
/-- what is told, or it is thrown -/
def OrLost (w : World) (o : Option Value) : Ending → World → Prop := fun e w' => (match o with | some v => e = .returned v | none => e = .panicked [{ v := lostV, recovered := false }]) ∧ Below w.heap.size w w'

theorem isnan64 (x : Int) (w : World) : Calls Tryz.prog 115 #[.int .i64 x] w fun e w' => e = .returned (.bool false) ∧ w' = w := by
  go_enter Tryz.func115, Tryz.ntmps115
  go_wp2
  go_ret
  exact ⟨ret_bool (by simp), rfl⟩
set_option maxHeartbeats 1000000 in
theorem cmpC_any (x y : Int) (w : World) : Calls Tryz.prog 100 #[.int .i64 x, .int .i64 y] w fun e w' => e = .returned (.int .i64 (cmpI x y)) ∧ w' = w := by
  rcases (show x < y ∨ y < x ∨ x = y by omega) with h | h | h
  · have HE : Hid (cmpI x y = -1) := if_pos h
    go_enter Tryz.func100, Tryz.ntmps100
    go_wp2_with (go_at_call 115; refine (isnan64 _ _).mono ?_; rintro e w' ⟨rfl, rfl⟩)
    go_ret
    exact ⟨ret_int HE.out.symm, rfl⟩
  · have hn : ¬ x < y := by omega
    have HE : Hid (cmpI x y = 1) := by unfold Hid cmpI; rw [if_neg hn, if_pos h]
    go_enter Tryz.func100, Tryz.ntmps100
    go_wp2_with (go_at_call 115; refine (isnan64 _ _).mono ?_; rintro e w' ⟨rfl, rfl⟩)
    go_ret
    exact ⟨ret_int HE.out.symm, rfl⟩
  · subst h
    have HE : Hid (cmpI x x = 0) := by unfold Hid cmpI; rw [if_neg (by omega), if_neg (by omega)]
    go_enter Tryz.func100, Tryz.ntmps100
    go_wp2_with (go_at_call 115; refine (isnan64 _ _).mono ?_; rintro e w' ⟨rfl, rfl⟩)
    go_ret
    exact ⟨ret_int HE.out.symm, rfl⟩

set_option maxHeartbeats 1000000 in
theorem so_any (op c : Int) (w : World) : Calls Tryz.prog 120 #[.int .i64 op, .int .i64 c] w fun e w' => e = .returned (.bool (soB op c)) ∧ w' = w := by
  rcases (show op = 3 ∨ op = 4 ∨ op = 5 ∨ op = 6 ∨ op = 7 ∨ op = 8 ∨ (op ≠ 3 ∧ op ≠ 4 ∧ op ≠ 5 ∧ op ≠ 6 ∧ op ≠ 7 ∧ op ≠ 8) by omega) with rfl | rfl | rfl | rfl | rfl | rfl | ⟨h3, h4, h5, h6, h7, h8⟩
  all_goals
    go_enter Tryz.func120, Tryz.ntmps120
    go_wp2
    go_ret
    refine ⟨ret_bool ?_, rfl⟩
    unfold soB
    simp (config := { decide := true, failIfUnchanged := false }) [*]
    try rfl
set_option maxHeartbeats 1000000 in
theorem val_any {w : World} {v0 v3 v4 : Value} {s : Sta} (h : StR w v0 v3 v4 s) (a n : Int) :
    Calls Tryz.prog 101 #[.agg #[v0, .int .i64 s.opn, .int .i64 s.dne, v3, v4], .agg #[.int .i64 a, .int .i64 n]] w (OrLost w (if thereV s (a, n) = true then some (.int .i64 (valV s (a, n))) else none)) := by
  obtain ⟨ad, cap, e0⟩ := h.vals.len
  subst e0
  obtain ⟨W1, hW1⟩ : ∃ W1, w.alloc (.cells #[.slice ad s.vals.length cap, .int .i64 s.opn, .int .i64 s.dne, v3, v4] 44) = W1 := ⟨_, rfl⟩
  obtain ⟨W2, hW2⟩ : ∃ W2, W1.alloc (.cells #[.int .i64 a, .int .i64 n] 35) = W2 := ⟨_, rfl⟩
  have hb1 : Below w.heap.size w W1 := by rw [← hW1]; exact (Below.refl _ w).alloc (Nat.le_refl _) _
  have hb2 : Below w.heap.size w W2 := by rw [← hW2]; exact hb1.alloc hb1.size _
  have x1 : Blk W1 w.heap.size #[.slice ad s.vals.length cap, .int .i64 s.opn, .int .i64 s.dne, v3, v4] 44 := by rw [← hW1]; exact Blk.new _ _ _
  have hsz : W1.heap.size = w.heap.size + 1 := by rw [← hW1]; simp
  have x2 : Blk W2 (w.heap.size + 1) #[.int .i64 a, .int .i64 n] 35 := by rw [← hW2, ← hsz]; exact Blk.new _ _ _
  have x1' : Blk W2 w.heap.size #[.slice ad s.vals.length cap, .int .i64 s.opn, .int .i64 s.dne, v3, v4] 44 := by rw [← hW2]; exact x1.keep ((Below.refl _ _).alloc (Nat.le_refl _) _)
  have c0 := x1'.cell (i := 0) rfl
  have d0 := x2.cell (i := 0) rfl
  have d1 := x2.cell (i := 1) rfl
  have HB := Lib.hid hb2
  have HS := Lib.hid (h.vals.below intE_keep hb2)
  clear h hb1 hb2 x1 x2 x1'
  rcases (show a = -1 ∨ a < -1 ∨ (s.vals.length : Int) ≤ a ∨ (0 ≤ a ∧ a < (s.vals.length : Int)) by omega) with q | q | q | q
  · have HT : Hid ((if thereV s (a, n) = true then some (Value.int .i64 (valV s (a, n))) else none) = some (.int .i64 n)) := by
      unfold Hid thereV valV; subst q; simp
      omega
    rw [HT.out]
    clear HT
    subst q
    go_enter Tryz.func101, Tryz.ntmps101
    go_wp2
    go_ret
    exact ⟨rfl, HB.out⟩
  · have HT : Hid ((if thereV s (a, n) = true then some (Value.int .i64 (valV s (a, n))) else none) = none) := by
      unfold Hid thereV; simp; omega
    rw [HT.out]
    clear HT
    have hn1 : (a == -1) = false := by rw [beq_eq_false_iff_ne]; omega
    have hn2 : a < 0 := by omega
    clear q
    go_enter Tryz.func101, Tryz.ntmps101
    go_wp2
    exact ⟨rfl, rfl, HB.out⟩
  · have HT : Hid ((if thereV s (a, n) = true then some (Value.int .i64 (valV s (a, n))) else none) = none) := by
      unfold Hid thereV; simp; omega
    rw [HT.out]
    clear HT
    have hn1 : (a == -1) = false := by rw [beq_eq_false_iff_ne]; omega
    have hn2 : ¬ a < 0 := by omega
    have hn3 : decide ((s.vals.length : Int) ≤ a) = true := decide_eq_true q
    go_enter Tryz.func101, Tryz.ntmps101
    go_wp2
    exact ⟨rfl, rfl, HB.out⟩
  · obtain ⟨k, rfl⟩ : ∃ k : Nat, a = (k : Int) := ⟨a.toNat, by omega⟩
    obtain ⟨x, hx⟩ : ∃ x, s.vals[k]? = some x := ⟨_, List.getElem?_eq_getElem (by omega)⟩
    have HT : Hid ((if thereV s ((k : Int), n) = true then some (Value.int .i64 (valV s ((k : Int), n))) else none) = some (.int .i64 x)) := by
      have e1 : thereV s ((k : Int), n) = true := by unfold thereV; simp; omega
      have e2 : valV s ((k : Int), n) = x := by
        unfold valV
        rw [if_neg (by simp), Int.toNat_natCast, List.getD_eq_getElem?_getD, hx]; rfl
      unfold Hid
      rw [if_pos e1, e2]
    rw [HT.out]
    clear HT
    obtain ⟨b, off, c, hv, hbl, hc⟩ := HS.out.int hx
    simp only [Value.slice.injEq, true_and] at hv
    obtain ⟨rfl, rfl⟩ := hv
    have hn1 : ((k : Int) == -1) = false := by rw [beq_eq_false_iff_ne]; omega
    have hn2 : ¬ (k : Int) < 0 := by omega
    have hk0 : (0 : Int) ≤ (k : Int) := by omega
    have hk1 := q.2
    have hn3 : decide ((s.vals.length : Int) ≤ (k : Int)) = false := decide_eq_false (by omega)
    clear q
    go_enter Tryz.func101, Tryz.ntmps101
    go_wp2
    go_ret
    exact ⟨rfl, HB.out⟩
set_option maxHeartbeats 1000000 in
set_option maxHeartbeats 1000000 in
/-- by which two numbers are held together -/
theorem less_any {w : World} {v0 v3 v4 : Value} {s : Sta} (h : StR w v0 v3 v4 s) {b : Nat} (hs : Blk w b #[v0, .int .i64 s.opn, .int .i64 s.dne, v3, v4] 44) (l r : Int × Int) :
    Calls Tryz.prog 99 #[.agg #[.int .i64 l.1, .int .i64 l.2], .agg #[.int .i64 r.1, .int .i64 r.2], .pointer (some ⟨b, 0, none⟩)] w (OrLost w (if (thereV s l && thereV s r) = true then some (.int .i64 (cmpI (valV s l) (valV s r))) else none)) := by
  obtain ⟨W1, hW1⟩ : ∃ W1, w.alloc (.cells #[.int .i64 l.1, .int .i64 l.2] 35) = W1 := ⟨_, rfl⟩
  obtain ⟨W2, hW2⟩ : ∃ W2, W1.alloc (.cells #[.int .i64 r.1, .int .i64 r.2] 35) = W2 := ⟨_, rfl⟩
  have hb1 : Below w.heap.size w W1 := by rw [← hW1]; exact (Below.refl _ w).alloc (Nat.le_refl _) _
  have hb2 : Below w.heap.size w W2 := by rw [← hW2]; exact hb1.alloc hb1.size _
  have x1 : Blk W1 w.heap.size #[.int .i64 l.1, .int .i64 l.2] 35 := by rw [← hW1]; exact Blk.new _ _ _
  have x1' : Blk W2 w.heap.size #[.int .i64 l.1, .int .i64 l.2] 35 := by rw [← hW2]; exact x1.keep ((Below.refl _ _).alloc (Nat.le_refl _) _)
  have x2 : Blk W2 (W1.heap.size) #[.int .i64 r.1, .int .i64 r.2] 35 := by rw [← hW2]; exact Blk.new _ _ _
  have HSF : Hid (∀ W, Below W2.heap.size W2 W → (W.cell? ⟨b, 0, none⟩ = some v0 ∧ W.cell? ⟨b, 1, none⟩ = some (.int .i64 s.opn) ∧ W.cell? ⟨b, 2, none⟩ = some (.int .i64 s.dne) ∧ W.cell? ⟨b, 3, none⟩ = some v3 ∧ W.cell? ⟨b, 4, none⟩ = some v4) ∧ (W.cell? ⟨w.heap.size, 0, none⟩ = some (.int .i64 l.1) ∧ W.cell? ⟨w.heap.size, 1, none⟩ = some (.int .i64 l.2)) ∧ W.cell? ⟨W1.heap.size, 0, none⟩ = some (.int .i64 r.1) ∧ W.cell? ⟨W1.heap.size, 1, none⟩ = some (.int .i64 r.2)) := by
    intro W hW
    have y := (hs.keep hb2).keep hW
    have y1 := x1'.keep hW
    have y2 := x2.keep hW
    exact ⟨⟨y.cell rfl, y.cell rfl, y.cell rfl, y.cell rfl, y.cell rfl⟩, ⟨y1.cell rfl, y1.cell rfl⟩, y2.cell rfl, y2.cell rfl⟩
  have HV : Hid (∀ W (x : Int × Int), Below W2.heap.size W2 W → Calls Tryz.prog 101 #[.agg #[v0, .int .i64 s.opn, .int .i64 s.dne, v3, v4], .agg #[.int .i64 x.1, .int .i64 x.2]] W (OrLost W (if thereV s x = true then some (.int .i64 (valV s x)) else none))) :=
    fun W x hW => val_any ((h.below hb2).below hW) x.1 x.2
  have HB2 := Lib.hid hb2
  clear h hs hb1 hb2 x1 x1' x2
  obtain ⟨f0, f1, f2⟩ := HSF.out _ (Below.refl W2.heap.size W2)
  cases hl : thereV s l
  · rw [if_neg (by simp)]
    have hv1 : ∀ W, Below W2.heap.size W2 W → Calls Tryz.prog 101 #[.agg #[v0, .int .i64 s.opn, .int .i64 s.dne, v3, v4], .agg #[.int .i64 l.1, .int .i64 l.2]] W (OrLost W none) := fun W hW => by have := HV.out W l hW; rwa [if_neg (by rw [hl]; decide)] at this
    have HV1 := Lib.hid hv1
    clear hl hv1 HV
    go_enter Tryz.func99, Tryz.ntmps99
    go_wp2_with fail
    skip
    refine wp_region_held_drew (S := (fun W => (W.cell? ⟨b, 0, none⟩ = some v0 ∧ W.cell? ⟨b, 1, none⟩ = some (.int .i64 s.opn) ∧ W.cell? ⟨b, 2, none⟩ = some (.int .i64 s.dne) ∧ W.cell? ⟨b, 3, none⟩ = some v3 ∧ W.cell? ⟨b, 4, none⟩ = some v4) ∧ (W.cell? ⟨w.heap.size, 0, none⟩ = some (.int .i64 l.1) ∧ W.cell? ⟨w.heap.size, 1, none⟩ = some (.int .i64 l.2)) ∧ W.cell? ⟨W1.heap.size, 0, none⟩ = some (.int .i64 r.1) ∧ W.cell? ⟨W1.heap.size, 1, none⟩ = some (.int .i64 r.2))) (by kernel_rfl) ?_ (fun hHeld => ?_)
    · exact HSF.out _ ((Below.refl _ _).drew)
    refine wpAnyH_take (i := 0) (v := ?v0) rfl (by kernel_rfl) (by kernel_rfl) (by kernel_rfl) (fun _ _ _ h => h) (Or.inl ⟨by rfl, ?y0⟩) (by assumption) ?r0
    case y0 => ((intro w hSw; (try dsimp only at hSw); go_simp) <;> (try with_reducible rfl))
    (try go_simp)
    refine wpAnyH_take (i := 1) (v := ?v1) rfl (by kernel_rfl) (by kernel_rfl) (by kernel_rfl) (fun _ _ _ h => h) (Or.inl ⟨by rfl, ?y1⟩) (by assumption) ?r1
    case y1 => ((intro w hSw; (try dsimp only at hSw); go_simp) <;> (try with_reducible rfl))
    (try go_simp)
    refine wpAnyH_take (i := 3) (v := ?v3) rfl (by kernel_rfl) (by kernel_rfl) (by kernel_rfl) (fun _ _ _ h => h) (Or.inl ⟨by rfl, ?y3⟩) (by assumption) ?r3
    case y3 => ((intro w hSw; (try dsimp only at hSw); go_simp) <;> (try with_reducible rfl))
    (try go_simp)
    refine wpAnyH_take (i := 4) (v := ?v4) rfl (by kernel_rfl) (by kernel_rfl) (by kernel_rfl) (fun _ _ _ h => h) (Or.inl ⟨by rfl, ?y4⟩) (by assumption) ?r4
    case y4 => ((intro w hSw; (try dsimp only at hSw); go_simp) <;> (try with_reducible rfl))
    (try go_simp)
    refine wpAnyH_ready (rs := [2]) (by kernel_rfl) (by simp) ?_
    refine AllReadyH.cons rfl (fun K hK => ?_) AllReadyH.nil
    go_simp
    go_at_call 101
    refine (HV1.out _ ?_).mono ?_
    · exact (Below.refl _ _).drew
    rintro e w7 ⟨rfl, hb7⟩
    exact ⟨rfl, rfl, HB2.out.trans (((Below.refl _ _).drew.trans (hb7.mono (Nat.le_refl _))).mono HB2.out.size)⟩
  · cases hr : thereV s r
    · rw [if_neg (by simp)]
      have hv1 : ∀ W, Below W2.heap.size W2 W → Calls Tryz.prog 101 #[.agg #[v0, .int .i64 s.opn, .int .i64 s.dne, v3, v4], .agg #[.int .i64 l.1, .int .i64 l.2]] W (OrLost W (some (.int .i64 (valV s l)))) := fun W hW => by have := HV.out W l hW; rwa [if_pos hl] at this
      have hv2 : ∀ W, Below W2.heap.size W2 W → Calls Tryz.prog 101 #[.agg #[v0, .int .i64 s.opn, .int .i64 s.dne, v3, v4], .agg #[.int .i64 r.1, .int .i64 r.2]] W (OrLost W none) := fun W hW => by have := HV.out W r hW; rwa [if_neg (by rw [hr]; decide)] at this
      have HV1 := Lib.hid hv1
      have HV2 := Lib.hid hv2
      clear hl hr hv1 hv2 HV
      go_enter Tryz.func99, Tryz.ntmps99
      go_wp2_with fail
      refine wp_region_held_drew (S := (fun W => (W.cell? ⟨b, 0, none⟩ = some v0 ∧ W.cell? ⟨b, 1, none⟩ = some (.int .i64 s.opn) ∧ W.cell? ⟨b, 2, none⟩ = some (.int .i64 s.dne) ∧ W.cell? ⟨b, 3, none⟩ = some v3 ∧ W.cell? ⟨b, 4, none⟩ = some v4) ∧ (W.cell? ⟨w.heap.size, 0, none⟩ = some (.int .i64 l.1) ∧ W.cell? ⟨w.heap.size, 1, none⟩ = some (.int .i64 l.2)) ∧ W.cell? ⟨W1.heap.size, 0, none⟩ = some (.int .i64 r.1) ∧ W.cell? ⟨W1.heap.size, 1, none⟩ = some (.int .i64 r.2))) (by kernel_rfl) ?_ (fun hHeld => ?_)
      · exact HSF.out _ ((Below.refl _ _).drew)
      refine wpAnyH_take (i := 0) (v := ?u0) rfl (by kernel_rfl) (by kernel_rfl) (by kernel_rfl) (fun _ _ _ h => h) (Or.inl ⟨by rfl, ?z0⟩) (by assumption) ?s0
      case z0 => ((intro w hSw; (try dsimp only at hSw); go_simp) <;> (try with_reducible rfl))
      (try go_simp)
      refine wpAnyH_take (i := 1) (v := ?u1) rfl (by kernel_rfl) (by kernel_rfl) (by kernel_rfl) (fun _ _ _ h => h) (Or.inl ⟨by rfl, ?z1⟩) (by assumption) ?s1
      case z1 => ((intro w hSw; (try dsimp only at hSw); go_simp) <;> (try with_reducible rfl))
      (try go_simp)
      refine wpAnyH_take (i := 3) (v := ?u3) rfl (by kernel_rfl) (by kernel_rfl) (by kernel_rfl) (fun _ _ _ h => h) (Or.inl ⟨by rfl, ?z3⟩) (by assumption) ?s3
      case z3 => ((intro w hSw; (try dsimp only at hSw); go_simp) <;> (try with_reducible rfl))
      (try go_simp)
      refine wpAnyH_take (i := 4) (v := ?u4) rfl (by kernel_rfl) (by kernel_rfl) (by kernel_rfl) (fun _ _ _ h => h) (Or.inl ⟨by rfl, ?z4⟩) (by assumption) ?s4
      case z4 => ((intro w hSw; (try dsimp only at hSw); go_simp) <;> (try with_reducible rfl))
      (try go_simp)
      refine wpAnyH_ready (rs := [2]) (by kernel_rfl) (by simp) ?_
      refine AllReadyH.cons rfl (fun K hK => ?_) AllReadyH.nil
      go_simp
      go_at_call 101
      refine (HV1.out _ ((Below.refl _ _).drew)).mono ?_
      rintro e w7 ⟨rfl, hb7⟩
      have hbz := (Below.refl W2.heap.size W2).drew.trans (hb7.mono (Nat.le_refl _))
      refine hK.out _ _ ?_ (fun hHeld => ?_)
      · exact HSF.out _ hbz
      clear hK K
      (try go_simp)
      refine wpAnyH_ready (rs := [5]) (by kernel_rfl) (by simp) ?_
      refine AllReadyH.cons rfl (fun K hK => ?_) AllReadyH.nil
      go_simp
      go_at_call 101
      refine (HV2.out _ hbz).mono ?_
      rintro e w8 ⟨rfl, hb8⟩
      exact ⟨rfl, rfl, HB2.out.trans ((hbz.trans (hb8.mono hbz.size)).mono HB2.out.size)⟩
    · rw [if_pos (by simp)]
      have hv1 : ∀ W, Below W2.heap.size W2 W → Calls Tryz.prog 101 #[.agg #[v0, .int .i64 s.opn, .int .i64 s.dne, v3, v4], .agg #[.int .i64 l.1, .int .i64 l.2]] W (OrLost W (some (.int .i64 (valV s l)))) := fun W hW => by have := HV.out W l hW; rwa [if_pos hl] at this
      have hv2 : ∀ W, Below W2.heap.size W2 W → Calls Tryz.prog 101 #[.agg #[v0, .int .i64 s.opn, .int .i64 s.dne, v3, v4], .agg #[.int .i64 r.1, .int .i64 r.2]] W (OrLost W (some (.int .i64 (valV s r)))) := fun W hW => by have := HV.out W r hW; rwa [if_pos hr] at this
      have HV1 := Lib.hid hv1
      have HV2 := Lib.hid hv2
      clear hl hr hv1 hv2 HV
      go_enter Tryz.func99, Tryz.ntmps99
      go_wp2_with fail
      refine wp_region_held_drew (S := (fun W => (W.cell? ⟨b, 0, none⟩ = some v0 ∧ W.cell? ⟨b, 1, none⟩ = some (.int .i64 s.opn) ∧ W.cell? ⟨b, 2, none⟩ = some (.int .i64 s.dne) ∧ W.cell? ⟨b, 3, none⟩ = some v3 ∧ W.cell? ⟨b, 4, none⟩ = some v4) ∧ (W.cell? ⟨w.heap.size, 0, none⟩ = some (.int .i64 l.1) ∧ W.cell? ⟨w.heap.size, 1, none⟩ = some (.int .i64 l.2)) ∧ W.cell? ⟨W1.heap.size, 0, none⟩ = some (.int .i64 r.1) ∧ W.cell? ⟨W1.heap.size, 1, none⟩ = some (.int .i64 r.2))) (by kernel_rfl) ?_ (fun hHeld => ?_)
      · exact HSF.out _ ((Below.refl _ _).drew)
      refine wpAnyH_take (i := 0) (v := ?w0) rfl (by kernel_rfl) (by kernel_rfl) (by kernel_rfl) (fun _ _ _ h => h) (Or.inl ⟨by rfl, ?x0⟩) (by assumption) ?t0
      case x0 => ((intro w hSw; (try dsimp only at hSw); go_simp) <;> (try with_reducible rfl))
      (try go_simp)
      refine wpAnyH_take (i := 1) (v := ?w1) rfl (by kernel_rfl) (by kernel_rfl) (by kernel_rfl) (fun _ _ _ h => h) (Or.inl ⟨by rfl, ?x1⟩) (by assumption) ?t1
      case x1 => ((intro w hSw; (try dsimp only at hSw); go_simp) <;> (try with_reducible rfl))
      (try go_simp)
      refine wpAnyH_take (i := 3) (v := ?w3) rfl (by kernel_rfl) (by kernel_rfl) (by kernel_rfl) (fun _ _ _ h => h) (Or.inl ⟨by rfl, ?x3⟩) (by assumption) ?t3
      case x3 => ((intro w hSw; (try dsimp only at hSw); go_simp) <;> (try with_reducible rfl))
      (try go_simp)
      refine wpAnyH_take (i := 4) (v := ?w4) rfl (by kernel_rfl) (by kernel_rfl) (by kernel_rfl) (fun _ _ _ h => h) (Or.inl ⟨by rfl, ?x4⟩) (by assumption) ?t4
      case x4 => ((intro w hSw; (try dsimp only at hSw); go_simp) <;> (try with_reducible rfl))
      (try go_simp)
      refine wpAnyH_ready (rs := [2]) (by kernel_rfl) (by simp) ?_
      refine AllReadyH.cons rfl (fun K hK => ?_) AllReadyH.nil
      go_simp
      go_at_call 101
      refine (HV1.out _ ((Below.refl _ _).drew)).mono ?_
      rintro e w7 ⟨rfl, hb7⟩
      have hbz := (Below.refl W2.heap.size W2).drew.trans (hb7.mono (Nat.le_refl _))
      refine hK.out _ _ ?_ (fun hHeld => ?_)
      · exact HSF.out _ hbz
      clear hK K
      (try go_simp)
      refine wpAnyH_ready (rs := [5]) (by kernel_rfl) (by simp) ?_
      refine AllReadyH.cons rfl (fun K hK => ?_) AllReadyH.nil
      go_simp
      go_at_call 101
      refine (HV2.out _ hbz).mono ?_
      rintro e w8 ⟨rfl, hb8⟩
      replace hbz := hbz.trans (hb8.mono hbz.size)
      refine hK.out _ _ ?_ (fun hHeld => ?_)
      · exact HSF.out _ hbz
      clear hK K
      (try go_simp)
      refine wpAnyH_ready (rs := [6]) (by kernel_rfl) (by simp) ?_
      refine AllReadyH.cons rfl (fun K hK => ?_) AllReadyH.nil
      go_simp
      go_at_call 100
      refine (cmpC_any _ _ _).mono ?_
      rintro e w9 ⟨rfl, rfl⟩
      refine hK.out _ _ ?_ (fun hHeld => ?_)
      · exact HSF.out _ hbz
      clear hK K
      (try go_simp)
      refine wpAnyH_take (i := 7) (v := ?w7) rfl (by kernel_rfl) (by kernel_rfl) (by kernel_rfl) (fun _ _ _ h => h) (Or.inl ⟨by rfl, ?x7⟩) (by assumption) ?t7
      case x7 => ((intro w hSw; (try dsimp only at hSw); go_simp) <;> (try with_reducible rfl))
      (try go_simp)
      refine wpAnyH_done (by kernel_rfl) ?_ _
      go_wp2
      go_ret
      exact ⟨rfl, HB2.out.trans (hbz.mono HB2.out.size)⟩
end Go.Proofs.YtadjnfpomjopkaaGreat

namespace Go.Proofs.YtadjnfpomjopkaaGreat
open Go.RowKit

theorem info_any : (Tryz.prog.info? 20).map (fun i => (i.zero, i.size, i.bytes)) = some (some .nilIface, 1, 16) := by kernel_rfl
def bvV (b : Bool) : Value := .iface 4 (.bool b)
/-- truths as they lie: the last one last -/
def bvs (R : List Bool) : List Value := (R.reverse).map bvV
theorem bvs_len (R : List Bool) : (bvs R).length = R.length := by simp [bvs]
theorem bvs_cons (b : Bool) (R : List Bool) : bvs (b :: R) = bvs R ++ [bvV b] := by simp [bvs]
theorem bvs_last (b : Bool) (R : List Bool) : (bvs (b :: R))[R.length]? = some (bvV b) := by rw [bvs_cons, List.getElem?_append_right (by rw [bvs_len]; exact Nat.le_refl _), bvs_len, Nat.sub_self]; rfl
theorem bvs_take (b : Bool) (R : List Bool) : (bvs (b :: R)).take R.length = bvs R := by rw [bvs_cons, ← bvs_len R, List.take_left]
theorem ownsNe {w : World} {base : Nat} {e t : TypeId} {sz : Nat} {v : Value} {n k : Nat} {xs : List Value} {cs : Array Value} (h : w.ownsRow base e sz v n xs) (hk : Blk w k cs t) (hne : t ≠ e) : v.ownBlock ≠ some k := by
  rcases h.2 with ⟨rfl, _⟩ | ⟨g, cap, cur, rfl, _, hg, _⟩
  · simp [Value.ownBlock]
  · intro hgk
    simp [Value.ownBlock] at hgk
    subst hgk
    unfold Blk at hk
    rw [hk] at hg
    simp only [Option.some.injEq, Obj.cells.injEq] at hg
    exact hne hg.2.1
theorem ownsSetIn {w : World} {base : Nat} {e t : TypeId} {sz : Nat} {v : Value} {n k : Nat} {xs : List Value} {cs : Array Value} (h : w.ownsRow base e sz v n xs) (hk : Blk w k cs t) (hne : t ≠ e) (j : Nat) (u : Value) :
    (w.setCell ⟨k, j, none⟩ u).ownsRow base e sz v n xs := by
  have hnb := ownsNe h hk hne
  refine ⟨h.1, ?_⟩
  rcases h.2 with hn | ⟨g, cap, cur, hv, hBg, hgg, r⟩
  · exact .inl hn
  · exact .inr ⟨g, cap, cur, hv, hBg, (Below.heap_setCell _ _ _ _ (by show g ≠ k; intro e'; exact hnb (by rw [hv, e']; rfl))).trans hgg, r⟩
theorem ownsShort {w : World} {base : Nat} {e : TypeId} {g n cap m : Nat} {xs : List Value} (h : w.ownsRow base e 1 (.slice (some ⟨g, 0, none⟩) n cap) n xs) (hm : m ≤ n) : w.ownsRow base e 1 (.slice (some ⟨g, 0, none⟩) m cap) m (xs.take m) := by
  rcases h.2 with ⟨h0, _⟩ | ⟨g', cap', cur, hv, hb, hg, hn, hc, hs, ht⟩
  · cases h0
  · cases hv
    exact ⟨by rw [List.length_take, h.1]; omega, .inr ⟨g, cap, cur, rfl, hb, hg, by omega, hc, hs, by rw [← ht, List.take_take, Nat.min_eq_left (by omega)]; simp⟩⟩
theorem ownsCapM {w : World} {base : Nat} {e : TypeId} {g n cap sz : Nat} {xs : List Value} (h : w.ownsRow base e sz (.slice (some ⟨g, 0, none⟩) n cap) n xs) : n ≤ cap ∧ cap ≤ maxLen := by
  rcases h.2 with ⟨h0, _⟩ | ⟨g', cap', cur, hv, hb, hg, hn, hc, hs, ht⟩
  · cases h0
  · cases hv; exact ⟨hn, hc⟩

theorem as_bool (v : Value) (W : World) : (Instr.typeAssert (.iface 4 v) 20 4 false).run Tryz.prog W = .ok v W := by kernel_rfl
theorem as_lost (v : Value) (W : World) : (Instr.typeAssert (.iface 158 v) 20 158 true).run Tryz.prog W = .ok (.tuple #[v, .bool true]) W := by kernel_rfl
/-- an asker: a state, by which numbers are held together, a row of truths -/
def AkB (base : Nat) (w : World) (b : Nat) (h0 h1 h2 h3 h4 h5 : Value) (R : List Bool) : Prop :=
  ∃ rv, Blk w b #[h0, h1, h2, h3, h4, h5, rv] 154 ∧ w.ownsRow base 20 1 rv R.length (bvs R) ∧ base ≤ b
theorem AkB.alloc {base : Nat} {w : World} {b : Nat} {h0 h1 h2 h3 h4 h5 : Value} {R : List Bool} (h : AkB base w b h0 h1 h2 h3 h4 h5 R) (o : Obj) : AkB base (w.alloc o) b h0 h1 h2 h3 h4 h5 R := by
  obtain ⟨rv, hb, hr, hq⟩ := h
  exact ⟨rv, hb.alloc o, hr.alloc o, hq⟩
theorem AkB.keep {base : Nat} {w w' : World} {b : Nat} {h0 h1 h2 h3 h4 h5 : Value} {R : List Bool} (h : AkB base w b h0 h1 h2 h3 h4 h5 R) (hB : Below w.heap.size w w') : AkB base w' b h0 h1 h2 h3 h4 h5 R := by
  obtain ⟨rv, hb, hr, hq⟩ := h
  exact ⟨rv, hb.keep hB, owns_below hr hB, hq⟩
/-- all other blocks that are no row of truths stay -/
def OthK (w w' : World) (b : Nat) : Prop := ∀ (k : Nat) (cs : Array Value) (t : TypeId), k ≠ b → t ≠ 20 → Blk w k cs t → Blk w' k cs t
theorem OthK.of_below {w w' : World} {b : Nat} (h : Below w.heap.size w w') : OthK w w' b := fun _ _ _ _ _ hb => hb.keep h
theorem OthK.trans {w w2 w3 : World} {b : Nat} (h : OthK w w2 b) (h2 : OthK w2 w3 b) : OthK w w3 b := fun k cs t h0 h1 hb => h2 k cs t h0 h1 (h k cs t h0 h1 hb)
def AkPost (base : Nat) (w : World) (b : Nat) (h0 h1 h2 h3 h4 h5 : Value) (R : List Bool) (v : Value) (e : Ending) (w' : World) : Prop := e = .returned v ∧ AkB base w' b h0 h1 h2 h3 h4 h5 R ∧ Below base w w' ∧ OthK w w' b

set_option maxHeartbeats 1000000 in
theorem apush_any {base : Nat} {w : World} {b : Nat} {h0 h1 h2 h3 h4 h5 : Value} {R : List Bool} (h : AkB base w b h0 h1 h2 h3 h4 h5 R) (hl : R.length ≤ 1000) (x : Bool) :
    Calls Tryz.prog 119 #[.pointer (some ⟨b, 0, none⟩), .bool x] w (AkPost base w b h0 h1 h2 h3 h4 h5 (x :: R) (.tuple #[])) := by
  obtain ⟨rv, hb, hr, hq⟩ := h
  obtain ⟨ad, cap, hv⟩ := owns_len hr
  subst hv
  have hbl := hb.lt
  have HR := Lib.hid hr
  have HB := Lib.hid hb
  have hB : base ≤ w.heap.size := by omega
  have c6 := hb.cell (i := 6) rfl
  clear hr hb
  go_enter Tryz.func119, Tryz.ntmps119
  go_wp2_with (first
    | (at_builtin; refine app1 _ #[.iface 4 (.bool x)] rfl _ _ 152 rfl base 20 .nilIface 1 16 Tryz.underlying152 info_any rfl (by decide) (by decide) _ _ _ rfl (by exact HR.out) rfl (by simp) rfl (by simp [Value.oneCell']) (by omega) hB ?_; intro v' w3 hown3 hgr3 hbel
       obtain ⟨ad3, cap3, hv3⟩ := owns_len hown3
       subst hv3
       have HO := Lib.hid hown3; have HBL := Lib.hid hbel
       have HB3 := Lib.hid (HB.out.grown hgr3 (ownsNe HR.out HB.out (by decide)))
       have d6 := HB3.out.cell (i := 6) rfl
       have f6 := HB3.out.free 6
       have HOT : Hid (OthK w w3 b) := fun k cs t _ ht hk => hk.grown hgr3 (ownsNe HR.out hk ht)
       clear hown3 hbel hgr3)
    | fail)
  go_wp2
  refine bodyPost_ret (results_none rfl _ _ _) rfl ?_
  have HS := HB3.out.store 6 (.slice ad3 (R.length + 1) cap3)
  exact ⟨rfl, ⟨_, HS, by rw [bvs_cons, List.length_cons]; exact ownsSetIn HO.out HB3.out (by decide) 6 _, hq⟩, HBL.out.setCell (p := ⟨b, 6, none⟩) hq _, fun k cs t h0 h1 hk => (HOT.out k cs t h0 h1 hk).other h0 _⟩

set_option maxHeartbeats 1000000 in
theorem apop_none {base : Nat} {w : World} {b : Nat} {h0 h1 h2 h3 h4 h5 : Value} (h : AkB base w b h0 h1 h2 h3 h4 h5 []) :
    Calls Tryz.prog 114 #[.pointer (some ⟨b, 0, none⟩)] w fun e w' => e = .panicked [{ v := lostV, recovered := false }] ∧ w' = w := by
  obtain ⟨rv, hb, hr, hq⟩ := h
  obtain ⟨ad, cap, hv⟩ := owns_len hr
  rw [List.length_nil] at hv
  subst hv
  have c6 := hb.cell (i := 6) rfl
  clear hr hb
  go_enter Tryz.func114, Tryz.ntmps114
  go_wp2
  exact ⟨rfl, rfl, rfl⟩
set_option maxRecDepth 100000 in
set_option maxHeartbeats 1000000 in
theorem apop_any {base : Nat} {w : World} {b : Nat} {h0 h1 h2 h3 h4 h5 : Value} {x : Bool} {R : List Bool} (h : AkB base w b h0 h1 h2 h3 h4 h5 (x :: R)) (hl : R.length ≤ 1000) :
    Calls Tryz.prog 114 #[.pointer (some ⟨b, 0, none⟩)] w (AkPost base w b h0 h1 h2 h3 h4 h5 R (.bool x)) := by
  obtain ⟨rv, hb, hr, hq⟩ := h
  obtain ⟨g, cap, hv, hg, hgs⟩ := owns_shape hr (by simp)
  subst hv
  rw [List.length_cons] at hr hb
  obtain ⟨n, hn⟩ : ∃ n, R.length = n := ⟨_, rfl⟩
  have c0 : w.cell? ⟨g, n, none⟩ = some (.iface 4 (.bool x)) := (World.ownsRow.cellAt hr n (by omega)).trans (by rw [← hn]; exact bvs_last x R)
  have hcap := ownsCapM hr
  have HSH : Hid (w.ownsRow base 20 1 (.slice (some ⟨g, 0, none⟩) n cap) n (bvs R)) := by
    have := ownsShort hr (show n ≤ R.length + 1 by omega)
    rw [← hn, bvs_take] at this
    rw [← hn]; exact this
  have c6 : w.cell? ⟨b, 6, none⟩ = some (.slice (some ⟨g, 0, none⟩) (R.length + 1) cap) := hb.cell (i := 6) rfl
  have f6 := hb.free 6
  have hnc : (n : Int) ≤ (cap : Int) := by omega
  have hz : (0 : Int) ≤ (n : Int) := by omega
  have hz1 : (n : Int) < (n : Int) + 1 := by omega
  have hw0 : IntKind.i64.wrap (n : Int) = n := IntWalk.i64_in _ ⟨by omega, by omega⟩
  have hw1 : IntKind.i64.wrap ((n : Int) + 1 - 1) = n := by rw [show (n : Int) + 1 - 1 = n by omega]; exact hw0
  have hne : ¬ ((n : Int) + 1 = 0) := by omega
  have hta := as_bool
  have HB := Lib.hid hb
  have HN := Lib.hid hn
  rw [hn] at c6
  clear hr hb hn hcap
  go_enter Tryz.func114, Tryz.ntmps114
  go_wp2
  go_ret
  have HS := HB.out.store 6 (.slice (some ⟨g, 0, none⟩) n cap)
  exact ⟨rfl, ⟨_, HS, by rw [HN.out]; exact ownsSetIn HSH.out HB.out (by decide) 6 _, hq⟩, (Below.refl _ _).setCell (p := ⟨b, 6, none⟩) hq _, fun k cs t h0 h1 hk => hk.other h0 _⟩
end Go.Proofs.YtadjnfpomjopkaaGreat

namespace Go.Proofs.YtadjnfpomjopkaaGreat
open Go.RowKit

set_option maxHeartbeats 400000 in
theorem number_in (i : Int) (w : World) (h0 : 0 ≤ i) (h1 : i ≤ 30) :
    Calls Tryz.prog 95 #[.int .i64 i] w fun e w' => e = .returned (.bool true) ∧ w = w' := by
  go_enter Tryz.func95, Tryz.ntmps95
  go_wp2
  go_ret
  exact ⟨by simp; omega, rfl⟩

set_option maxHeartbeats 400000 in
theorem number_out (i : Int) (w : World) (h : i < 0 ∨ 30 < i) :
    Calls Tryz.prog 95 #[.int .i64 i] w fun e w' => e = .returned (.bool false) ∧ w = w' := by
  rcases h with h | h
  all_goals
    go_enter Tryz.func95, Tryz.ntmps95
    go_wp2
    go_ret
    exact ⟨by simp; try omega, rfl⟩

set_option maxHeartbeats 400000 in
theorem has_any (s i : Int) (w : World) :
    Calls Tryz.prog 96 #[.int .i64 s, .int .i64 i] w fun e w' => e = .returned (.bool (hasB s i)) ∧ w = w' := by
  by_cases h : 0 ≤ i ∧ i ≤ 30
  · obtain ⟨h0, h1⟩ := h
    have H : Hid (hasB s i = (bits BinOp.and IntKind.i64 (s / 2 ^ i.toNat) 1 == 1)) := by
      unfold Hid hasB hasN; rw [if_pos ⟨h0, h1⟩, and_one]
    go_enter Tryz.func96, Tryz.ntmps96
    go_wp2_with (go_at_call 95; refine (number_in _ _ (by omega) (by omega)).mono ?_; rintro e w' ⟨rfl, rfl⟩)
    go_ret
    exact ⟨ret_bool H.out.symm, rfl⟩
  · have H : Hid (hasB s i = false) := by unfold Hid hasB; rw [if_neg h]
    have h' : i < 0 ∨ 30 < i := by omega
    have H' := Lib.hid h'; clear h h'
    go_enter Tryz.func96, Tryz.ntmps96
    go_wp2_with (go_at_call 95; refine (number_out _ _ H'.out).mono ?_; rintro e w' ⟨rfl, rfl⟩)
    go_ret
    exact ⟨ret_bool H.out.symm, rfl⟩

set_option maxHeartbeats 400000 in
theorem with_any (s i : Int) (w : World) :
    Calls Tryz.prog 83 #[.int .i64 s, .int .i64 i] w fun e w' => e = .returned (.int .i64 (putZ s i true)) ∧ w = w' := by
  by_cases h : 0 ≤ i ∧ i ≤ 30
  · obtain ⟨h0, h1⟩ := h
    have H := Lib.hid (with_word s i h0 h1)
    go_enter Tryz.func83, Tryz.ntmps83
    go_wp2_with (go_at_call 95; refine (number_in _ _ (by omega) (by omega)).mono ?_; rintro e w' ⟨rfl, rfl⟩)
    go_ret
    exact ⟨ret_int H.out, rfl⟩
  · have h' : i < 0 ∨ 30 < i := by omega
    have H := Lib.hid ((and_all s).trans (putZ_out s i true h').symm)
    have H' := Lib.hid h'; clear h h'
    go_enter Tryz.func83, Tryz.ntmps83
    go_wp2_with (go_at_call 95; refine (number_out _ _ H'.out).mono ?_; rintro e w' ⟨rfl, rfl⟩)
    go_ret
    exact ⟨ret_int H.out, rfl⟩

set_option maxHeartbeats 400000 in
theorem without_any (s i : Int) (w : World) :
    Calls Tryz.prog 90 #[.int .i64 s, .int .i64 i] w fun e w' => e = .returned (.int .i64 (putZ s i false)) ∧ w = w' := by
  by_cases h : 0 ≤ i ∧ i ≤ 30
  · obtain ⟨h0, h1⟩ := h
    have H := Lib.hid (without_word s i h0 h1)
    go_enter Tryz.func90, Tryz.ntmps90
    go_wp2_with (go_at_call 95; refine (number_in _ _ (by omega) (by omega)).mono ?_; rintro e w' ⟨rfl, rfl⟩)
    go_ret
    exact ⟨ret_int H.out, rfl⟩
  · have h' : i < 0 ∨ 30 < i := by omega
    have H := Lib.hid ((and_all s).trans (putZ_out s i false h').symm)
    have H' := Lib.hid h'; clear h h'
    go_enter Tryz.func90, Tryz.ntmps90
    go_wp2_with (go_at_call 95; refine (number_out _ _ H'.out).mono ?_; rintro e w' ⟨rfl, rfl⟩)
    go_ret
    exact ⟨ret_int H.out, rfl⟩

theorem half_step (s0 : Int) (k : Nat) : s0 / 2 ^ k / 2 = s0 / 2 ^ (k + 1) := by
  rw [Int.pow_succ, Int.ediv_ediv_of_nonneg (Int.pow_nonneg (by decide))]

theorem pow_bd (s0 : Int) (k : Nat) (h0 : -9223372036854775808 ≤ s0) (h1 : s0 ≤ 9223372036854775807) : -9223372036854775808 ≤ s0 / 2 ^ k ∧ s0 / 2 ^ k ≤ 9223372036854775807 := by
  have hp : (1 : Int) ≤ 2 ^ k := by have : (0 : Int) < 2 ^ k := Int.pow_pos (by decide); omega
  constructor
  · have : -9223372036854775808 * (2 ^ k) ≤ s0 := by
      have := Int.mul_le_mul_of_nonneg_left hp (show (0 : Int) ≤ 9223372036854775808 by decide); omega
    exact (Int.le_ediv_iff_mul_le (by omega)).2 this
  · have : s0 < 9223372036854775808 * (2 ^ k) := by
      have := Int.mul_le_mul_of_nonneg_left hp (show (0 : Int) ≤ 9223372036854775808 by decide); omega
    have := (Int.ediv_lt_iff_lt_mul (show (0 : Int) < 2 ^ k by omega)).2 this
    omega

theorem half_cases (q : Int) : (q.tmod 2 = 0 ∧ q % 2 = 0 ∧ q.tdiv 2 = q / 2) ∨ (0 ≤ q ∧ q.tmod 2 = 1 ∧ q % 2 = 1 ∧ (q - 1).tdiv 2 = q / 2) ∨ (q < 0 ∧ q.tmod 2 = -1 ∧ q % 2 = 1 ∧ (q - 1).tdiv 2 = q / 2) := by
  have e1 := Int.tmod_eq_emod_of_nonneg (a := q) (b := 2)
  have e2 := Int.mul_tdiv_add_tmod q 2
  have e3 := Int.mul_tdiv_add_tmod (q - 1) 2
  have r1 := Int.tmod_lt_of_pos q (show (0 : Int) < 2 by decide)
  have r2 := Int.lt_tmod_of_pos q (show (0 : Int) < 2 by decide)
  have r3 := Int.tmod_lt_of_pos (q - 1) (show (0 : Int) < 2 by decide)
  have r4 := Int.lt_tmod_of_pos (q - 1) (show (0 : Int) < 2 by decide)
  have e4 := Int.tmod_eq_emod_of_nonneg (a := q - 1) (b := 2)
  have e5 := Int.neg_tmod q 2
  have e6 := Int.tmod_eq_emod_of_nonneg (a := -q) (b := 2)
  rw [e5] at e6
  have e7 := Int.neg_tmod (q - 1) 2
  have e8 := Int.tmod_eq_emod_of_nonneg (a := -(q - 1)) (b := 2)
  rw [e7] at e8
  clear e5 e7
  generalize q.tmod 2 = a at *
  generalize (q - 1).tmod 2 = b at *
  generalize q.tdiv 2 = c at *
  generalize (q - 1).tdiv 2 = d at *
  omega

set_option maxHeartbeats 1000000 in
theorem rhas_any (s0 i : Int) (w : World) (hs0 : -9223372036854775808 ≤ s0) (hs1 : s0 ≤ 9223372036854775807) :
    Calls Tryz.prog 32 #[.int .i64 s0, .int .i64 i] w fun e w' => e = .returned (.bool (hasB s0 i)) ∧ w = w' := by
  by_cases h : 0 ≤ i ∧ i ≤ 30
  · obtain ⟨h0, h1⟩ := h
    obtain ⟨n, rfl⟩ := Int.eq_ofNat_of_zero_le h0
    have H : Hid (hasB s0 (n : Int) = hasN s0 n) := by unfold Hid hasB; rw [if_pos ⟨h0, h1⟩, Int.toNat_natCast]
    go_enter Tryz.func32, Tryz.ntmps32
    go_wp2
    go_loop [0, 5, 6] (fun s k _ => ∃ (j : Nat) (q : Int), j ≤ n ∧ k = .int .i64 j ∧ s = .int .i64 q ∧ Hid (q = s0 / 2 ^ j)) (fun _ k _ => n - (intOf k).toNat)
    case atStart => exact ⟨0, s0, Nat.zero_le _, rfl, rfl, by unfold Hid; simp⟩
    case round =>
      obtain ⟨j, q, hj, rfl, rfl, HQ⟩ := hrel
      have hb := pow_bd s0 j hs0 hs1
      rw [← HQ.out] at hb
      obtain ⟨hb0, hb1⟩ := hb
      have HN : Hid (q / 2 = s0 / 2 ^ (j + 1)) := by unfold Hid; rw [← half_step, ← HQ.out]
      have hv : (q.tmod 2 = 0 ∧ q % 2 = 0 ∧ q.tdiv 2 = q / 2) ∨ (0 ≤ q ∧ q.tmod 2 = 1 ∧ q % 2 = 1 ∧ (q - 1).tdiv 2 = q / 2) ∨ (q < 0 ∧ q.tmod 2 = -1 ∧ q % 2 = 1 ∧ (q - 1).tdiv 2 = q / 2) := half_cases q
      by_cases hlt : j < n
      · rcases hv with ⟨h1, h2, h3⟩ | ⟨h0, h1, h2, h3⟩ | ⟨h0, h1, h2, h3⟩
        all_goals
          go_wp2
          go_round
          case rel => exact ⟨j + 1, q / 2, by omega, by go_num, int_eq (by omega), HN⟩
          case measure => simp [intOf]; omega
      · obtain rfl : n = j := by omega
        have HE : Hid (hasN s0 n = (q % 2 == 1)) := by unfold Hid hasN; rw [HQ.out]
        rcases hv with ⟨h1, h2, h3⟩ | ⟨h0, h1, h2, h3⟩ | ⟨h0, h1, h2, h3⟩
        all_goals
          go_wp2
          go_ret
          exact ⟨ret_bool (by rw [H.out, HE.out, h2]; simp), rfl⟩
  · have H : Hid (hasB s0 i = false) := by unfold Hid hasB; rw [if_neg h]
    have h' : i < 0 ∨ 30 < i := by omega
    clear h
    rcases h' with h | h
    all_goals
      go_enter Tryz.func32, Tryz.ntmps32
      go_wp2
      go_ret
      exact ⟨ret_bool H.out.symm, rfl⟩

end Go.Proofs.YtadjnfpomjopkaaGreat
