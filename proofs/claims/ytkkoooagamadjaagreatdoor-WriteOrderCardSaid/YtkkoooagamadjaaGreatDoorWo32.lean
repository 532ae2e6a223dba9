/- Points, sorted by their numbers, those of one number as they stood: cmp.Compare, the closure of zone.points, insertionSortCmpFunc, SortStableFunc. slices.SortStableFunc of fewer than 20 points. Points, merged: plain: what comes of points in order is the classes of all numbers. -/
import Derived.Test.YtkkoooagamadjaaGreatDoorWo31
import Derived.Test.YtkkoooagamadjaaGreatDoorWo12
import Derived.Deep.RegionHeld3
import Derived.Test.YtkkoooagamadjaaGreatDoorWo25
import Derived.Test.YtkkoooagamadjaaGreatDoorWo13

namespace Go.Proofs.YtkkoooagamadjaaGreatDoor
open Go.RowKit

/-- a number, the attributes that have it, the constant that it is -/
abbrev Pt := Int × Int × Int
def cellsT (l : List Pt) : List Value := l.flatMap fun p => [.int .i64 p.1, .int .i64 p.2.1, .int .i64 p.2.2]
theorem cellsT_len (l : List Pt) : (cellsT l).length = l.length * 3 := by
  induction l with
  | nil => rfl
  | cons p r ih => simp only [cellsT, List.flatMap_cons, List.length_append, List.length_cons, List.length_nil] at *; omega
theorem cellsT_snoc (l : List Pt) (p : Pt) : cellsT (l ++ [p]) = cellsT l ++ [.int .i64 p.1, .int .i64 p.2.1, .int .i64 p.2.2] := by simp [cellsT]
theorem cellsT_get (l : List Pt) : ∀ (k : Nat) (p : Pt), l[k]? = some p → (cellsT l)[k * 3]? = some (.int .i64 p.1) ∧ (cellsT l)[k * 3 + 1]? = some (.int .i64 p.2.1) ∧ (cellsT l)[k * 3 + 2]? = some (.int .i64 p.2.2) := by
  induction l with
  | nil => intro k p h; simp at h
  | cons q r ih =>
    intro k p h
    cases k with
    | zero => simp at h; subst h; simp [cellsT]
    | succ k =>
      have := ih k p (by simpa using h)
      rw [show (k + 1) * 3 = k * 3 + 1 + 1 + 1 by omega]
      simpa [cellsT] using this
theorem cellsT_set (l : List Pt) : ∀ (k : Nat) (p : Pt), cellsT (l.set k p) = (((cellsT l).set (k * 3) (.int .i64 p.1)).set (k * 3 + 1) (.int .i64 p.2.1)).set (k * 3 + 2) (.int .i64 p.2.2) := by
  induction l with
  | nil => intro k p; simp [cellsT]
  | cons q r ih =>
    intro k p
    cases k with
    | zero => simp [cellsT]
    | succ k =>
      rw [List.set_cons_succ, show (k + 1) * 3 = k * 3 + 1 + 1 + 1 by omega]
      simp only [cellsT, List.flatMap_cons, List.cons_append, List.nil_append, List.set_cons_succ] at *
      rw [ih]
theorem cellsT_one (l : List Pt) : ∀ u ∈ cellsT l, u.oneCell' = true := by
  intro u hu
  obtain ⟨p, _, hu⟩ := List.mem_flatMap.1 hu
  simp only [List.mem_cons, List.not_mem_nil, or_false] at hu
  rcases hu with rfl | rfl | rfl <;> rfl

/-- how two numbers stand -/
def cmpZ (a b : Int) : Int := if a < b then -1 else if b < a then 1 else 0
set_option maxHeartbeats 1000000 in
theorem ccmp_any (x y : Int) (w : World) : Calls Tryz.prog 45 #[.int .i64 x, .int .i64 y] w fun e w' => e = .returned (.int .i64 (cmpZ x y)) ∧ w' = w := by
  rcases (show x < y ∨ y < x ∨ x = y by omega) with h | h | h
  · have HE : Hid (cmpZ x y = -1) := if_pos h
    go_enter Tryz.func45, Tryz.ntmps45
    go_wp2_with (go_at_call 77; refine (isNaN_any _ _).mono ?_; rintro e w' ⟨rfl, rfl⟩)
    go_ret
    exact ⟨ret_int HE.out.symm, rfl⟩
  · have hn : ¬ x < y := by omega
    have HE : Hid (cmpZ x y = 1) := by unfold Hid cmpZ; rw [if_neg hn, if_pos h]
    go_enter Tryz.func45, Tryz.ntmps45
    go_wp2_with (go_at_call 77; refine (isNaN_any _ _).mono ?_; rintro e w' ⟨rfl, rfl⟩)
    go_ret
    exact ⟨ret_int HE.out.symm, rfl⟩
  · subst h
    have HE : Hid (cmpZ x x = 0) := by unfold Hid cmpZ; rw [if_neg (by omega), if_neg (by omega)]
    go_enter Tryz.func45, Tryz.ntmps45
    go_wp2_with (go_at_call 77; refine (isNaN_any _ _).mono ?_; rintro e w' ⟨rfl, rfl⟩)
    go_ret
    exact ⟨ret_int HE.out.symm, rfl⟩
def ptV (p : Pt) : Value := .agg #[.int .i64 p.1, .int .i64 p.2.1, .int .i64 p.2.2]
set_option maxHeartbeats 2000000 in
theorem pcmp_any (x y : Pt) (w : World) : Calls Tryz.prog 44 #[.agg #[.int .i64 x.1, .int .i64 x.2.1, .int .i64 x.2.2], .agg #[.int .i64 y.1, .int .i64 y.2.1, .int .i64 y.2.2]] w fun e w' => e = .returned (.int .i64 (cmpZ x.1 y.1)) ∧ Below w.heap.size w w' := by
  obtain ⟨W1, hW1⟩ : ∃ W1, w.alloc (.cells #[.int .i64 x.1, .int .i64 x.2.1, .int .i64 x.2.2] 51) = W1 := ⟨_, rfl⟩
  have hs1 : W1.heap.size = w.heap.size + 1 := by rw [← hW1]; simp
  have hb1 : Below w.heap.size w W1 := by rw [← hW1]; exact (Below.refl _ _).alloc (Nat.le_refl _) _
  have x1 : Blk W1 w.heap.size #[.int .i64 x.1, .int .i64 x.2.1, .int .i64 x.2.2] 51 := by rw [← hW1]; exact Blk.new _ _ _
  obtain ⟨W2, hW2⟩ : ∃ W2, W1.alloc (.cells #[.int .i64 y.1, .int .i64 y.2.1, .int .i64 y.2.2] 51) = W2 := ⟨_, rfl⟩
  have hb2 : Below w.heap.size w W2 := by rw [← hW2]; exact hb1.alloc (by omega) _
  have x2 : Blk W2 w.heap.size #[.int .i64 x.1, .int .i64 x.2.1, .int .i64 x.2.2] 51 := by rw [← hW2]; exact x1.alloc _
  have y2 : Blk W2 W1.heap.size #[.int .i64 y.1, .int .i64 y.2.1, .int .i64 y.2.2] 51 := by rw [← hW2]; exact Blk.new _ _ _
  have c0 := x2.cell (i := 0) rfl
  have d0 := y2.cell (i := 0) rfl
  have HB := Lib.hid hb2
  clear hb1 hb2 x1 x2 y2 hs1
  go_enter Tryz.func44, Tryz.ntmps44
  go_wp2_with fail
  refine (ccmp_any _ _ _).mono ?_
  rintro e w' ⟨rfl, rfl⟩
  go_wp2
  go_ret
  exact ⟨rfl, HB.out⟩

theorem owns_putT {w : World} {base : Nat} {e : TypeId} {g n cap q : Nat} {dj : List Pt} {x : Pt} (h : w.ownsRow base e 3 (.slice (some ⟨g, 0, none⟩) n cap) n (cellsT dj)) :
    (((w.setCell ⟨g, q * 3, none⟩ (.int .i64 x.1)).setCell ⟨g, q * 3 + 1, none⟩ (.int .i64 x.2.1)).setCell ⟨g, q * 3 + 2, none⟩ (.int .i64 x.2.2)).ownsRow base e 3 (.slice (some ⟨g, 0, none⟩) n cap) n (cellsT (dj.set q x)) := by
  have h1 := owns_set h (q * 3) (.int .i64 x.1)
  have h2 := owns_set h1 (q * 3 + 1) (.int .i64 x.2.1)
  have h3 := owns_set h2 (q * 3 + 2) (.int .i64 x.2.2)
  rw [cellsT_set]
  exact h3

/-- the closure, as a value -/
def cmpV : Value := .func (.func 44) #[] #[]

set_option maxRecDepth 100000 in
set_option maxHeartbeats 4000000 in
theorem insT_run (g n cap base : Nat) (l : List Pt) (w : World) (hn : n = l.length) (hn2 : n ≤ 8388608)
    (hown : w.ownsRow base 51 3 (.slice (some ⟨g, 0, none⟩) n cap) n (cellsT l)) :
    Calls Tryz.prog 104 #[.slice (some ⟨g, 0, none⟩) n cap, .int .i64 0, .int .i64 n, .func (.func 44) #[] #[]] w fun e w' => e = .returned (.tuple #[]) ∧ ∃ l', SortK (fun p : Pt => p.1) l l' ∧ w'.ownsRow base 51 3 (.slice (some ⟨g, 0, none⟩) n cap) n (cellsT l') ∧ w.grownBy w' (some g) := by
  have HN := Lib.hid hn
  clear hn
  go_enter Tryz.func104, Tryz.ntmps104
  go_wp2
  go_loopw [8, 9] (fun i _ wr => ∃ (k : Nat) (dk : List Pt), 1 ≤ k ∧ (k ≤ n ∨ k = 1) ∧ i = .int .i64 k ∧ Hid (OuterK (fun p : Pt => p.1) l dk k) ∧ Hid (wr.ownsRow base 51 3 (.slice (some ⟨g, 0, none⟩) n cap) n (cellsT dk)) ∧ Hid (w.grownBy wr (some g))) (fun i _ _ => n - (intOf i).toNat)
  case atStart => exact ⟨1, l, Nat.le_refl _, .inr rfl, rfl, outerK_start l, hown, ⟨rfl, rfl, rfl, Nat.le_refl _, fun _ _ _ => rfl⟩⟩
  case round =>
    obtain ⟨i, dk, hi1, hi, rfl, HO, HW, HG⟩ := hrel
    by_cases hlt : i < n
    · have hin : (i : Int) < (n : Int) := by omega
      have HS := Lib.hid (innerK_start HO.out (by rw [← HN.out]; exact hlt))
      clear hi
      go_wp2
      go_loopw [9] (fun k wr => ∃ (j : Nat) (dj : List Pt), j ≤ i ∧ k = .int .i64 j ∧ Hid (InnerK (fun p : Pt => p.1) l dj i j) ∧ Hid (wr.ownsRow base 51 3 (.slice (some ⟨g, 0, none⟩) n cap) n (cellsT dj)) ∧ Hid (w.grownBy wr (some g))) (fun k _ => (intOf k).toNat)
      case atStart => exact ⟨i, dk, Nat.le_refl _, rfl, HS, HW, HG⟩
      case round =>
        obtain ⟨j, dj, hj, rfl, HI, HW2, HG2⟩ := hrel
        by_cases hj0 : j = 0
        · subst hj0
          rw [show ((0 : Nat) : Int) = 0 from rfl]
          have HE := Lib.hid (innerK_end HI.out (.inl rfl))
          have z1 : decide ((0 : Int) < 0) = false := by decide
          go_wp2_with fail
          go_quiet (fail)
          generalize hwq : wr.drewN nq = wq
          have HWQ : Hid (wq.ownsRow base 51 3 (.slice (some ⟨g, 0, none⟩) n cap) n (cellsT dj)) := by rw [← hwq]; exact HW2
          have HGQ : Hid (w.grownBy wq (some g)) := by rw [← hwq]; exact ⟨HG2.out.os, HG2.out.tape, HG2.out.output, HG2.out.size, HG2.out.block⟩
          clear hwq
          go_wp2
          exact ⟨⟨i + 1, dj, by omega, by omega, by go_num, HE, HWQ, HGQ⟩, by simp [intOf]; omega⟩
        · obtain ⟨q, hjq⟩ : ∃ q, j = q + 1 := ⟨j - 1, by omega⟩
          have HJ := Lib.hid hjq
          have hI1 := HI.out
          rw [hjq] at hI1
          have HI1 := Lib.hid hI1
          obtain ⟨A, y, x, B, C, _, _, _, hp, _, _, hx, hy⟩ := innerK_get hI1
          rw [← hjq] at hx
          have hln : dj.length = n := by rw [hp.perm.length_eq, HN.out]
          have p1 : (j : Int) < (n : Int) := by omega
          have p2 : (0 : Int) < (j : Int) := by omega
          have p2n : 0 < j := by omega
          have p4 : (0 : Int) ≤ (j : Int) := by omega
          have p5 : (q : Int) < (n : Int) := by omega
          have p6 : (0 : Int) ≤ (q : Int) := by omega
          have hwp : IntKind.i64.wrap ((j : Int) - 1) = (q : Int) := by rw [IntKind.wrap_i64]; omega
          have hqi : q ≤ i := by omega
          have hmea : (q : Int).toNat < (j : Int).toNat := by omega
          have HMEA := Lib.hid hmea
          obtain ⟨cx0, cx1, cx2⟩ := cellsT_get _ _ _ hx
          obtain ⟨cy0, cy1, cy2⟩ := cellsT_get _ _ _ hy
          have HSF : Hid (∀ W : World, W.ownsRow base 51 3 (.slice (some ⟨g, 0, none⟩) n cap) n (cellsT dj) → W.cell? ⟨g, j * 3, none⟩ = some (.int .i64 x.1) ∧ W.cell? ⟨g, j * 3 + 1, none⟩ = some (.int .i64 x.2.1) ∧ W.cell? ⟨g, j * 3 + 2, none⟩ = some (.int .i64 x.2.2) ∧ W.cell? ⟨g, q * 3, none⟩ = some (.int .i64 y.1) ∧ W.cell? ⟨g, q * 3 + 1, none⟩ = some (.int .i64 y.2.1) ∧ W.cell? ⟨g, q * 3 + 2, none⟩ = some (.int .i64 y.2.2)) := fun W hW =>
            ⟨by rw [hW.cellAt _ (by omega)]; exact cx0, by rw [hW.cellAt _ (by omega)]; exact cx1, by rw [hW.cellAt _ (by omega)]; exact cx2, by rw [hW.cellAt _ (by omega)]; exact cy0, by rw [hW.cellAt _ (by omega)]; exact cy1, by rw [hW.cellAt _ (by omega)]; exact cy2⟩
          obtain ⟨c1, c2, c3, c4, c5, c6⟩ := HSF.out wr HW2.out
          have HSB : Hid (∀ W : World, Below wr.heap.size wr W → W.cell? ⟨g, j * 3, none⟩ = some (.int .i64 x.1) ∧ W.cell? ⟨g, j * 3 + 1, none⟩ = some (.int .i64 x.2.1) ∧ W.cell? ⟨g, j * 3 + 2, none⟩ = some (.int .i64 x.2.2) ∧ W.cell? ⟨g, q * 3, none⟩ = some (.int .i64 y.1) ∧ W.cell? ⟨g, q * 3 + 1, none⟩ = some (.int .i64 y.2.1) ∧ W.cell? ⟨g, q * 3 + 2, none⟩ = some (.int .i64 y.2.2)) := fun W hW => HSF.out W (owns_below HW2.out hW)
          have HX := Lib.hid hx
          have HY := Lib.hid hy
          have HCL : Hid (∀ W, Calls Tryz.prog 44 #[.agg #[.int .i64 x.1, .int .i64 x.2.1, .int .i64 x.2.2], .agg #[.int .i64 y.1, .int .i64 y.2.1, .int .i64 y.2.2]] W fun e w' => e = .returned (.int .i64 (cmpZ x.1 y.1)) ∧ Below W.heap.size W w') := fun W => pcmp_any x y W
          have hbz : Below wr.heap.size wr wr.drew := (Below.refl _ _).drew
          have hcm : (cmpZ x.1 y.1 < 0) = (x.1 < y.1) := by unfold cmpZ; split <;> (try split) <;> simp_all
          clear hI1 hmea hjq hx hy hp hln cx0 cx1 cx2 cy0 cy1 cy2
          obtain ⟨cm, hcm2⟩ : ∃ cm, cmpZ x.1 y.1 = cm := ⟨_, rfl⟩
          rw [hcm2] at hcm HCL
          clear hcm2
          by_cases t1 : x.1 < y.1
          · have HI2 := Lib.hid (show InnerK (fun p : Pt => p.1) l ((dj.set j y).set q x) i q by have := HX.out; rw [HJ.out] at this ⊢; exact innerK_swap HI1.out this HY.out t1)
            have hc0 : cm < 0 := by rw [hcm]; exact t1
            clear t1 hcm
            go_wp2_with fail
            (go_region_held3 (fun w' : World => w'.cell? ⟨g, j * 3, none⟩ = some (.int .i64 x.1) ∧ w'.cell? ⟨g, j * 3 + 1, none⟩ = some (.int .i64 x.2.1) ∧ w'.cell? ⟨g, j * 3 + 2, none⟩ = some (.int .i64 x.2.2) ∧ w'.cell? ⟨g, q * 3, none⟩ = some (.int .i64 y.1) ∧ w'.cell? ⟨g, q * 3 + 1, none⟩ = some (.int .i64 y.2.1) ∧ w'.cell? ⟨g, q * 3 + 2, none⟩ = some (.int .i64 y.2.2))
                  (first | (with_reducible exact HSB.out _ (by assumption)) | go_keep)
                  (first
                    | (go_simp; go_at_call 44; (with_reducible refine (HCL.out _).mono ?_)
                       rintro e' w11 ⟨rfl, hbs⟩
                       have hbz := hbz.trans (hbs.mono hbz.size)
                       clear hbs)))
            have HWQ := Lib.hid (owns_below HW2.out hbz)
            have HGQ : Hid (w.grownBy w11 (some g)) := grown_then_below HG2.out (hbz.mono HG2.out.size)
            obtain ⟨d1, d2, d3, d4, d5, d6⟩ := HSF.out _ HWQ.out
            have g1 := owns_frozen HWQ.out (j * 3); have g2 := owns_frozen HWQ.out (j * 3 + 1); have g3 := owns_frozen HWQ.out (j * 3 + 2)
            have g4 := owns_frozen HWQ.out (q * 3); have g5 := owns_frozen HWQ.out (q * 3 + 1); have g6 := owns_frozen HWQ.out (q * 3 + 2)
            clear c1 c2 c3 c4 c5 c6 HSF HSB HCL hbz HW2 HG2 HX HY
            have hj2 := HJ.out
            subst hj2
            go_wp2_with fail
            go_region
            go_wp2
            exact ⟨⟨q, _, hqi, rfl, HI2, (show _ from owns_putT (owns_putT HWQ.out)), grown_drew (grown_set (grown_set (grown_set (grown_set (grown_set (grown_set HGQ.out _) _) _) _) _) _)⟩, by have := HMEA.out; simp only [intOf]; omega⟩
          · have HE := Lib.hid (show OuterK (fun p : Pt => p.1) l dj (i + 1) from innerK_end HI1.out (.inr ⟨q, x, y, rfl, by have := HX.out; rw [HJ.out] at this; exact this, HY.out, t1⟩))
            have hc0 : ¬ cm < 0 := by rw [hcm]; exact t1
            clear t1 hcm
            go_wp2_with fail
            (go_region_held3 (fun w' : World => w'.cell? ⟨g, j * 3, none⟩ = some (.int .i64 x.1) ∧ w'.cell? ⟨g, j * 3 + 1, none⟩ = some (.int .i64 x.2.1) ∧ w'.cell? ⟨g, j * 3 + 2, none⟩ = some (.int .i64 x.2.2) ∧ w'.cell? ⟨g, q * 3, none⟩ = some (.int .i64 y.1) ∧ w'.cell? ⟨g, q * 3 + 1, none⟩ = some (.int .i64 y.2.1) ∧ w'.cell? ⟨g, q * 3 + 2, none⟩ = some (.int .i64 y.2.2))
                  (first | (with_reducible exact HSB.out _ (by assumption)) | go_keep)
                  (first
                    | (go_simp; go_at_call 44; (with_reducible refine (HCL.out _).mono ?_)
                       rintro e' w11 ⟨rfl, hbs⟩
                       have hbz := hbz.trans (hbs.mono hbz.size)
                       clear hbs)))
            have HWQ := Lib.hid (owns_below HW2.out hbz)
            have HGQ : Hid (w.grownBy w11 (some g)) := grown_then_below HG2.out (hbz.mono HG2.out.size)
            clear c1 c2 c3 c4 c5 c6 HSF HSB HCL hbz HW2 HG2 HX HY
            go_wp2
            exact ⟨⟨i + 1, dj, by omega, by omega, by go_num, HE, HWQ, HGQ⟩, by simp [intOf]; omega⟩
    · have hin : ¬ (i : Int) < (n : Int) := by omega
      have ho : SortK (fun p : Pt => p.1) l dk := by
        have hp := HO.out.1.perm.length_eq
        have h := HO.out
        rcases (show i = n ∨ n ≤ 1 by omega) with rfl | h1
        · rw [HN.out] at h; exact outerK_end h
        · refine ⟨h.1, ?_⟩
          have h2 := h.2
          rw [List.take_of_length_le (by have := HN.out; omega)] at h2
          exact h2
      have HSO := Lib.hid ho
      clear ho hi
      go_wp2
      go_end0
      exact ⟨rfl, dk, HSO.out, HW.out, HG.out⟩

end Go.Proofs.YtkkoooagamadjaaGreatDoor

namespace Go.Proofs.YtkkoooagamadjaaGreatDoor
open Go.RowKit

set_option maxHeartbeats 1000000 in
theorem insT_any (base : Nat) (v : Value) (l : List Pt) (w : World) (hown : w.ownsRow base 51 3 v l.length (cellsT l)) (hl : l.length ≤ 8388608) :
    Calls Tryz.prog 104 #[v, .int .i64 0, .int .i64 l.length, .func (.func 44) #[] #[]] w fun e w' => e = .returned (.tuple #[]) ∧ ∃ l', SortK (fun p : Pt => p.1) l l' ∧ w'.ownsRow base 51 3 v l.length (cellsT l') ∧ w.grownBy w' v.ownBlock := by
  have hown' := hown
  rcases hown.2 with ⟨rfl, h0⟩ | ⟨g, cap, cur, rfl, hb, hg, hn, _⟩
  · have hl0 : l = [] := List.length_eq_zero_iff.1 h0
    subst hl0
    go_enter Tryz.func104, Tryz.ntmps104
    go_wp2
    refine wp_loop_rounds 1 ?_
    rw [rounds_succ]
    go_wp2
    go_end0
    exact ⟨rfl, [], sortK_short (by simp), hown', ⟨rfl, rfl, rfl, Nat.le_refl _, fun _ _ _ => rfl⟩⟩
  · exact (insT_run g l.length cap base l w rfl hl hown').mono fun e w' ⟨h1, l', h2, h3, h4⟩ => ⟨h1, l', h2, h3, h4⟩

set_option maxRecDepth 100000 in
set_option maxHeartbeats 1000000 in
theorem stableT_any (base : Nat) (v : Value) (l : List Pt) (w : World) (hown : w.ownsRow base 51 3 v l.length (cellsT l)) (hl : l.length ≤ 19) :
    Calls Tryz.prog 76 #[v, .int .i64 l.length, .func (.func 44) #[] #[]] w fun e w' => e = .returned (.tuple #[]) ∧ ∃ l', SortK (fun p : Pt => p.1) l l' ∧ w'.ownsRow base 51 3 v l.length (cellsT l') ∧ w.grownBy w' v.ownBlock := by
  have HI := Lib.hid (insT_any base v l w hown (by omega))
  obtain ⟨ad, cap, hv⟩ := owns_len hown
  obtain ⟨n, hn⟩ : ∃ n, l.length = n := ⟨_, rfl⟩
  rw [hn] at hl HI hv ⊢
  subst hv
  clear hown hn
  have h1 : ¬ (20 : Int) ≤ (n : Int) := by omega
  have h2 : ¬ (20 : Int) < (n : Int) := by omega
  have h3 : ¬ 20 ≤ n := by omega
  have h4 : ¬ 20 < n := by omega
  go_enter Tryz.func76, Tryz.ntmps76
  go_wp2_with fail
  refine wp_loop_rounds 1 ?_
  rw [rounds_succ]
  go_wp2_with fail
  refine HI.out.mono ?_
  rintro e w' ⟨rfl, l', q1, q2, q3⟩
  have H1 := Lib.hid q1; have H2 := Lib.hid q2; have H3 := Lib.hid q3
  clear q1 q2 q3
  go_wp2_with fail
  refine wp_loop_rounds 1 ?_
  rw [rounds_succ]
  go_wp2
  first
  | ((try simp only [Exit.inBlock, Exit.then]); refine bodyPost_ret (results_none rfl _ _ _) rfl ?_)
  | go_end0
  exact ⟨rfl, l', H1.out, H2.out, H3.out⟩

set_option maxRecDepth 100000 in
set_option maxHeartbeats 1000000 in
theorem sortStable_any (base : Nat) (v : Value) (l : List Pt) (w : World) (hown : w.ownsRow base 51 3 v l.length (cellsT l)) (hl : l.length ≤ 19) :
    Calls Tryz.prog 43 #[v, .func (.func 44) #[] #[]] w fun e w' => e = .returned (.tuple #[]) ∧ ∃ l', SortK (fun p : Pt => p.1) l l' ∧ w'.ownsRow base 51 3 v l.length (cellsT l') ∧ w.grownBy w' v.ownBlock := by
  have HI := Lib.hid (stableT_any base v l w hown hl)
  obtain ⟨ad, cap, hv⟩ := owns_len hown
  obtain ⟨n, hn⟩ : ∃ n, l.length = n := ⟨_, rfl⟩
  rw [hn] at hl HI hv ⊢
  subst hv
  clear hown hn
  go_enter Tryz.func43, Tryz.ntmps43
  go_wp2_with fail
  refine HI.out.mono ?_
  rintro e w' ⟨rfl, l', q1, q2, q3⟩
  have H1 := Lib.hid q1; have H2 := Lib.hid q2; have H3 := Lib.hid q3
  clear q1 q2 q3
  go_wp2
  go_end0
  exact ⟨rfl, l', H1.out, H2.out, H3.out⟩

end Go.Proofs.YtkkoooagamadjaaGreatDoor

namespace Go.Proofs.YtkkoooagamadjaaGreatDoor
open Go.RowKit

def PtOK (p : Pt) : Prop := 0 ≤ p.2.1 ∧ p.2.1 < 2147483648
theorem ofB_self {a : Int} (h0 : 0 ≤ a) (h1 : a < 2147483648) : ((ofB (hasN a) : Nat) : Int) = a := by
  rw [← lo_ofB]; unfold lo; omega
theorem or_ofB (f g : Nat → Bool) : bits .or .i64 ((ofB f : Nat) : Int) ((ofB g : Nat) : Int) = ((ofB fun j => f j || g j : Nat) : Int) := by
  rw [or_nat _ _ (ofB_lt f) (ofB_lt g)]
  refine congrArg (fun n : Nat => (n : Int)) (eq_ofB _ (Nat.or_lt_two_pow (n := 31) (ofB_lt f) (ofB_lt g)) _ fun j hj => ?_)
  rw [Nat.testBit_or, ofB_bit, ofB_bit]
  simp [hj]

/-- the attributes that have a number, and the constant that it is: of points -/
def attrsC (L : List Pt) (y : Int) : Int := (ofB fun j => L.any fun p => p.1 == y && hasN p.2.1 j : Nat)
def firstC (L : List Pt) (y : Int) : Int := match L.find? (fun p => p.1 == y) with
  | some p => p.2.2
  | none => 0
def outP (L : List Pt) : List Pt := (sortS (L.map (·.1))).map fun y => (y, attrsC L y, firstC L y)

theorem attrsC_other (L : List Pt) (p : Pt) (y : Int) (h : p.1 ≠ y) : attrsC (L ++ [p]) y = attrsC L y := by
  unfold attrsC
  refine congrArg (fun n : Nat => (n : Int)) (ofB_congr _ _ fun j _ => ?_)
  simp [h]
theorem firstC_other (L : List Pt) (p : Pt) (y : Int) (h : p.1 ≠ y) : firstC (L ++ [p]) y = firstC L y := by
  unfold firstC
  rw [List.find?_append]
  have e : [p].find? (fun q => q.1 == y) = none := by simp [h]
  rw [e, Option.or_none]
theorem firstC_old (L : List Pt) (p : Pt) (y : Int) (h : ∃ q ∈ L, q.1 = y) : firstC (L ++ [p]) y = firstC L y := by
  unfold firstC
  rw [List.find?_append]
  obtain ⟨q, hq, e⟩ := h
  cases hf : L.find? (fun q => q.1 == y) with
  | none => have := List.find?_eq_none.1 hf q hq; simp [e] at this
  | some r => rfl
theorem firstC_new (L : List Pt) (p : Pt) (h : ∀ q ∈ L, q.1 ≠ p.1) : firstC (L ++ [p]) p.1 = p.2.2 := by
  unfold firstC
  rw [List.find?_append]
  have e : L.find? (fun q => q.1 == p.1) = none := List.find?_eq_none.2 fun q hq => by simpa using h q hq
  rw [e]; simp
theorem attrsC_new (L : List Pt) (p : Pt) (h : ∀ q ∈ L, q.1 ≠ p.1) (hp : PtOK p) : attrsC (L ++ [p]) p.1 = p.2.1 := by
  unfold attrsC
  conv => rhs; rw [← ofB_self hp.1 hp.2]
  refine congrArg (fun n : Nat => (n : Int)) (ofB_congr _ _ fun j _ => ?_)
  rw [List.any_append]
  have e : (L.any fun q => q.1 == p.1 && hasN q.2.1 j) = false := List.any_eq_false.2 fun q hq => by simp [h q hq]
  rw [e]; simp
theorem attrsC_old (L : List Pt) (p : Pt) (hp : PtOK p) : attrsC (L ++ [p]) p.1 = bits .or .i64 (attrsC L p.1) p.2.1 := by
  unfold attrsC
  conv => rhs; rw [← ofB_self hp.1 hp.2]
  rw [or_ofB]
  refine congrArg (fun n : Nat => (n : Int)) (ofB_congr _ _ fun j _ => ?_)
  simp

theorem outP_new (L : List Pt) (p : Pt) (h : ∀ q ∈ L, q.1 < p.1) (hp : PtOK p) : outP (L ++ [p]) = outP L ++ [p] := by
  have hs : sortS ((L ++ [p]).map (·.1)) = sortS (L.map (·.1)) ++ [p.1] := by
    refine int_uniq (sortS_ok _).1 ?_ fun z => ?_
    · refine List.pairwise_append.2 ⟨(sortS_ok _).1, List.pairwise_singleton _ _, fun a ha b hb => ?_⟩
      rw [List.mem_singleton] at hb
      subst hb
      obtain ⟨q, hq, rfl⟩ := List.mem_map.1 (((sortS_ok _).2 a).1 ha)
      exact h q hq
    · rw [(sortS_ok _).2, List.map_append, List.mem_append, List.mem_append, (sortS_ok _).2]; simp
  have hne : ∀ q ∈ L, q.1 ≠ p.1 := fun q hq => by have := h q hq; omega
  unfold outP
  have e1 : ((sortS (L.map (·.1))).map fun y => ((y, attrsC (L ++ [p]) y, firstC (L ++ [p]) y) : Pt)) = (sortS (L.map (·.1))).map fun y => (y, attrsC L y, firstC L y) := by
    refine List.map_congr_left fun y hy => ?_
    obtain ⟨q, hq, rfl⟩ := List.mem_map.1 (((sortS_ok _).2 y).1 hy)
    rw [attrsC_other L p q.1 (hne q hq).symm, firstC_other L p q.1 (hne q hq).symm]
  rw [hs, List.map_append, e1, List.map_singleton, attrsC_new L p hne hp, firstC_new L p hne]
theorem outP_same (L : List Pt) (p : Pt) (hs : ∀ q ∈ L, q.1 ≤ p.1) (hm : ∃ q ∈ L, q.1 = p.1) (hp : PtOK p) :
    ∃ X a c, outP L = X ++ [(p.1, a, c)] ∧ outP (L ++ [p]) = X ++ [(p.1, bits .or .i64 a p.2.1, c)] := by
  have he : sortS ((L ++ [p]).map (·.1)) = sortS (L.map (·.1)) := sortS_eq fun z => by
    rw [List.map_append, List.mem_append]
    constructor
    · rintro (h | h)
      · exact h
      · simp only [List.map_cons, List.map_nil, List.mem_singleton] at h
        subst h
        obtain ⟨q, hq, e⟩ := hm
        exact List.mem_map.2 ⟨q, hq, e⟩
    · exact .inl
  obtain ⟨Y, hY⟩ : ∃ Y, sortS (L.map (·.1)) = Y ++ [p.1] := by
    have hmem : p.1 ∈ sortS (L.map (·.1)) := by
      rw [(sortS_ok _).2]
      obtain ⟨q, hq, e⟩ := hm
      exact List.mem_map.2 ⟨q, hq, e⟩
    rcases List.eq_nil_or_concat (sortS (L.map (·.1))) with h0 | ⟨Y, z, h0⟩
    · rw [h0] at hmem; cases hmem
    · refine ⟨Y, ?_⟩
      have hp1 := (sortS_ok (L.map (·.1))).1
      rw [h0, List.concat_eq_append] at hmem hp1 ⊢
      have hzm : z ∈ sortS (L.map (·.1)) := by rw [h0]; simp
      obtain ⟨q, hq, e⟩ := List.mem_map.1 (((sortS_ok _).2 z).1 hzm)
      have hz := hs q hq
      rcases List.mem_append.1 hmem with h1 | h1
      · have := (List.pairwise_append.1 hp1).2.2 _ h1 z (by simp)
        omega
      · rw [List.mem_singleton] at h1; rw [h1]
  have hpw := (sortS_ok (L.map (·.1))).1
  rw [hY] at hpw
  have hYn : ∀ y ∈ Y, p.1 ≠ y := fun y hy => by have := (List.pairwise_append.1 hpw).2.2 y hy p.1 (by simp); omega
  refine ⟨Y.map fun y => (y, attrsC L y, firstC L y), attrsC L p.1, firstC L p.1, ?_, ?_⟩
  · unfold outP; rw [hY, List.map_append]; rfl
  · unfold outP
    have e1 : (Y.map fun y => ((y, attrsC (L ++ [p]) y, firstC (L ++ [p]) y) : Pt)) = Y.map fun y => (y, attrsC L y, firstC L y) := by
      refine List.map_congr_left fun y hy => ?_
      rw [attrsC_other L p y (hYn y hy), firstC_other L p y (hYn y hy)]
    rw [he, hY, List.map_append, List.map_singleton, attrsC_old L p hp, firstC_old L p p.1 hm, e1]

/-- all points of numbers -/
def ptsC : List Int → Nat → List Pt
  | [], _ => []
  | c :: r, i => (c, 0, (i : Int)) :: ptsC r (i + 1)
def ptsV : List Int → Nat → List Pt
  | [], _ => []
  | v :: r, i => (v, bitZ (i : Int), -1) :: ptsV r (i + 1)
theorem ptsC_snoc : ∀ (l : List Int) (i : Nat) (c : Int), ptsC (l ++ [c]) i = ptsC l i ++ [(c, 0, ((i + l.length : Nat) : Int))]
  | [], i, c => by simp [ptsC]
  | d :: l, i, c => by
    simp only [List.cons_append, ptsC, ptsC_snoc l (i + 1) c, List.length_cons]
    rw [show i + 1 + l.length = i + (l.length + 1) by omega]
theorem ptsV_snoc : ∀ (l : List Int) (i : Nat) (c : Int), ptsV (l ++ [c]) i = ptsV l i ++ [(c, bitZ ((i + l.length : Nat) : Int), -1)]
  | [], i, c => by simp [ptsV]
  | d :: l, i, c => by
    simp only [List.cons_append, ptsV, ptsV_snoc l (i + 1) c, List.length_cons]
    rw [show i + 1 + l.length = i + (l.length + 1) by omega]
theorem ptsC_len : ∀ (l : List Int) (i : Nat), (ptsC l i).length = l.length
  | [], _ => rfl
  | c :: r, i => by simp [ptsC, ptsC_len r]
theorem ptsV_len : ∀ (l : List Int) (i : Nat), (ptsV l i).length = l.length
  | [], _ => rfl
  | c :: r, i => by simp [ptsV, ptsV_len r]
theorem ptsC_num : ∀ (l : List Int) (i : Nat), (ptsC l i).map (·.1) = l
  | [], _ => rfl
  | c :: r, i => by simp [ptsC, ptsC_num r]
theorem ptsV_num : ∀ (l : List Int) (i : Nat), (ptsV l i).map (·.1) = l
  | [], _ => rfl
  | c :: r, i => by simp [ptsV, ptsV_num r]
theorem ptsC_ok : ∀ (l : List Int) (i : Nat), ∀ p ∈ ptsC l i, p.2.1 = 0
  | [], _, p, h => by cases h
  | c :: r, i, p, h => by
    rcases List.mem_cons.1 h with rfl | h
    · rfl
    · exact ptsC_ok r (i + 1) p h
theorem ptsV_any (f : Int → Int → Bool) : ∀ (l : List Int) (i : Nat), (ptsV l i).any (fun p => f p.1 p.2.1) = true ↔ ∃ k, k < l.length ∧ f (l.getD k 0) (bitZ ((i + k : Nat) : Int)) = true
  | [], i => by simp [ptsV]
  | v :: r, i => by
    simp only [ptsV, List.any_cons, Bool.or_eq_true, ptsV_any f r (i + 1), List.length_cons]
    constructor
    · rintro (h | ⟨k, hk, h⟩)
      · exact ⟨0, by omega, by simpa using h⟩
      · refine ⟨k + 1, by omega, ?_⟩
        rw [show i + (k + 1) = i + 1 + k by omega]; simpa using h
    · rintro ⟨k, hk, h⟩
      cases k with
      | zero => exact .inl (by simpa using h)
      | succ k =>
        refine .inr ⟨k, by omega, ?_⟩
        rw [show i + (k + 1) = i + 1 + k by omega] at h; simpa using h
theorem bitZ_has (k j : Nat) (hj : j < 31) : hasN (bitZ (k : Int)) j = decide (j = k) := by
  unfold bitZ putZ
  rw [hasN_ofB _ _ hj]
  by_cases h : (j : Int) = (k : Int)
  · rw [if_pos h]; simp; omega
  · rw [if_neg h]
    have : ¬ j = k := by omega
    simp [this, hasN]
theorem bitZ_ok (k : Int) : 0 ≤ bitZ k ∧ bitZ k < 2147483648 := putZ_bd _ _ _

def allP (vals consts : List Int) : List Pt := ptsC (sortS consts) 0 ++ ptsV vals 0
theorem allP_ok (vals consts : List Int) : ∀ p ∈ allP vals consts, PtOK p := by
  intro p hp
  rcases List.mem_append.1 hp with h | h
  · have e := ptsC_ok _ _ p h
    exact ⟨by omega, by omega⟩
  · have H : ∀ (l : List Int) (i : Nat), ∀ p ∈ ptsV l i, PtOK p := by
      intro l
      induction l with
      | nil => intro i p h; cases h
      | cons v r ih =>
        intro i p h
        rcases List.mem_cons.1 h with rfl | h
        · exact bitZ_ok _
        · exact ih (i + 1) p h
    exact H _ _ p h
theorem attrs_all (vals consts : List Int) (y : Int) (hv : vals.length ≤ 31) : attrsC (allP vals consts) y = attrZ (pZ vals y) vals.length := by
  rw [attrZ_ofB _ _ hv]
  unfold attrsC allP
  refine congrArg (fun n : Nat => (n : Int)) (ofB_congr _ _ fun j hj => ?_)
  rw [List.any_append]
  have e : ((ptsC (sortS consts) 0).any fun p => p.1 == y && hasN p.2.1 j) = false := List.any_eq_false.2 fun p hp => by
    rw [ptsC_ok _ _ p hp]; simp [hasN]
  rw [e, Bool.false_or, Bool.eq_iff_iff, ptsV_any (fun a b => a == y && hasN b j)]
  simp only [Nat.zero_add, Bool.and_eq_true, beq_iff_eq, decide_eq_true_eq, pZ]
  constructor
  · rintro ⟨k, hk, h1, h2⟩
    rw [bitZ_has k j hj, decide_eq_true_eq] at h2
    subst h2
    exact ⟨hk, h1⟩
  · rintro ⟨h1, h2⟩
    exact ⟨j, h1, h2, by rw [bitZ_has j j hj]; simp⟩
theorem find_C (y : Int) : ∀ (l : List Int) (i : Nat), l.Pairwise (· < ·) → (ptsC l i).find? (fun p => p.1 == y) = if y ∈ l then some (y, 0, constZ l y l.length + i) else none
  | [], i, _ => by simp [ptsC]
  | c :: r, i, hs => by
    obtain ⟨h1, h2⟩ := List.pairwise_cons.1 hs
    have H : ∀ n, n ≤ r.length → constZ (c :: r) y (n + 1) = if constZ r y n = -1 then (if c = y then 0 else -1) else constZ r y n + 1 := by
      intro n
      induction n with
      | zero => intro _; simp [constZ]
      | succ n ih =>
        intro hn
        have e : (c :: r).getD (n + 1) 0 = r.getD n 0 := by simp
        have e1 : constZ (c :: r) y (n + 1 + 1) = if r.getD n 0 = y then ((n + 1 : Nat) : Int) else constZ (c :: r) y (n + 1) := by rw [← e]; rfl
        have e2 : constZ r y (n + 1) = if r.getD n 0 = y then ((n : Nat) : Int) else constZ r y n := rfl
        rw [e1, e2]
        by_cases h : r.getD n 0 = y
        · rw [if_pos h, if_pos h, if_neg (by omega)]; omega
        · rw [if_neg h, if_neg h]; exact ih (by omega)
    simp only [ptsC, List.find?_cons]
    by_cases hc : c = y
    · subst hc
      have hn : c ∉ r := fun h => by have := h1 c h; omega
      have e := H r.length (Nat.le_refl _)
      rw [if_pos ((const_mem r c).2 hn), if_pos rfl] at e
      simp [e]
    · have e := H r.length (Nat.le_refl _)
      simp only [hc, if_false] at e
      have hb : (c == y) = false := by simpa using hc
      rw [hb]
      simp only [find_C y r (i + 1) h2, List.mem_cons, List.length_cons, e]
      by_cases hy : y ∈ r
      · have hk : constZ r y r.length ≠ -1 := fun h => (const_mem r y).1 h hy
        rw [if_pos hy, if_pos (.inr hy), if_neg hk]
        congr 3
        omega
      · rw [if_neg hy, if_neg (by rintro (h | h); exact hc h.symm; exact hy h)]
theorem find_V (y : Int) : ∀ (l : List Int) (i : Nat), y ∈ l → ∃ p, (ptsV l i).find? (fun p => p.1 == y) = some p ∧ p.2.2 = -1
  | v :: r, i, h => by
    simp only [ptsV, List.find?_cons]
    by_cases hc : v = y
    · subst hc; exact ⟨_, by simp; rfl, rfl⟩
    · have hb : (v == y) = false := by simpa using hc
      rw [hb]
      rcases List.mem_cons.1 h with h | h
      · exact absurd h.symm hc
      · exact find_V y r (i + 1) h
theorem first_all (vals consts : List Int) (y : Int) (h : y ∈ vals ++ consts) : firstC (allP vals consts) y = constZ (sortS consts) y (sortS consts).length := by
  unfold firstC allP
  rw [List.find?_append, find_C y _ 0 (sortS_ok _).1]
  by_cases hy : y ∈ sortS consts
  · rw [if_pos hy]; simp
  · rw [if_neg hy, Option.none_or]
    have hv : y ∈ vals := by
      rcases List.mem_append.1 h with h | h
      · exact h
      · exact absurd (((sortS_ok _).2 y).2 h) hy
    obtain ⟨p, e, hp⟩ := find_V y vals 0 hv
    rw [e]
    show p.2.2 = _
    rw [hp, (const_mem _ _).2 hy]

/-- what comes of the points in order -/
theorem outP_all (vals consts : List Int) (hv : vals.length ≤ 31) {Q : List Pt} (h : SortK (fun p : Pt => p.1) (allP vals consts) Q) :
    outP Q = (sortS (vals ++ consts)).map fun y => (y, clsZ (pZ vals) vals.length (sortS consts) y) := by
  have hn : sortS (Q.map (·.1)) = sortS (vals ++ consts) := sortS_eq fun z => by
    rw [(h.perm.map (·.1)).mem_iff]
    unfold allP
    rw [List.map_append, ptsC_num, ptsV_num, List.mem_append, List.mem_append, (sortS_ok _).2]
    exact or_comm
  unfold outP
  rw [hn]
  refine List.map_congr_left fun y hy => ?_
  have h1 : attrsC Q y = attrsC (allP vals consts) y := by
    unfold attrsC
    refine congrArg (fun n : Nat => (n : Int)) (ofB_congr _ _ fun j _ => ?_)
    rw [Bool.eq_iff_iff, List.any_eq_true, List.any_eq_true]
    exact ⟨fun ⟨p, hp, e⟩ => ⟨p, h.perm.mem_iff.1 hp, e⟩, fun ⟨p, hp, e⟩ => ⟨p, h.perm.mem_iff.2 hp, e⟩⟩
  have h2 : firstC Q y = firstC (allP vals consts) y := by
    unfold firstC
    rw [← List.head?_filter, ← List.head?_filter, h.keep y]
  rw [h1, h2, attrs_all vals consts y hv, first_all vals consts y (((sortS_ok _).2 y).1 hy)]
  rfl

end Go.Proofs.YtkkoooagamadjaaGreatDoor
