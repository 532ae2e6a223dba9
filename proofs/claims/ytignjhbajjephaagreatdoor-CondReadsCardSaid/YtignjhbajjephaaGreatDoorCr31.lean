/- Contracts of warderref01: All, Runes, End. Contracts of warderref02's small functions. -/
import Derived.Test.YtignjhbajjephaaGreatDoorCr30
import Derived.Test.YtignjhbajjephaaGreatDoorCr27
import Derived.Test.YtignjhbajjephaaGreatDoorCr01

namespace Go.Proofs.YtignjhbajjephaaGreatDoor
open Go.RowKit

theorem info_rr : (Tryz.prog.info? 61).map (fun i => (i.zero, i.size, i.bytes)) = some (some (.agg #[.int .i64 0, .int .i64 0, .int .i64 0, .int .i64 0, .int .i64 0]), 5, 40) := by kernel_rfl

set_option maxRecDepth 100000 in
set_option maxHeartbeats 2000000 in
theorem rall_any (s : ByteArray) (w : World) (hs : s.size ≤ 4294967296) :
    Calls Tryz.prog 38 #[.string s] w fun e w' => ∃ v, e = .returned v ∧ w'.ownsRow w.heap.size 61 5 v (allR s).length (rnFlat .i64 (allR s)) ∧ Below w.heap.size w w' := by
  go_enter Tryz.func38, Tryz.ntmps38
  go_wp2
  go_loopw [3, 4, 5, 6, 7, 8] (fun v l c p _ _ wr => ∃ (pre : List Rn) (q : Nat) (line col : Int), p = .int .i64 q ∧ l = .int .i64 line ∧ c = .int .i64 col ∧ q ≤ s.size ∧ pre.length ≤ q ∧ 0 ≤ line ∧ line ≤ q + 1 ∧ 0 ≤ col ∧ col ≤ q + 1 ∧ wr.ownsRow w.heap.size 61 5 v pre.length (rnFlat .i64 pre) ∧ Below w.heap.size w wr ∧ Hid (allR s = pre ++ restG (decR s) s q line col)) (fun _ _ _ p _ _ _ => s.size - (intOf p).toNat)
  case atStart => exact ⟨[], 0, 1, 1, rfl, rfl, rfl, Nat.zero_le _, by simp, by omega, by omega, by omega, by omega, World.ownsRow_nil _ _ _ _, Below.refl _ _, rfl⟩
  case round =>
    obtain ⟨pre, q, line, col, rfl, rfl, rfl, hq, hpl, hl0, hl1, hl2, hl3, hown, hb, HE⟩ := hrel
    have hsz := hb.size
    by_cases hlt : q < s.size
    · have hdn := decN_pos s q
      have hdl := decN_le s q hlt
      have hqz : (q : Int) < (s.size : Int) := by omega
      obtain ⟨r, hr⟩ : ∃ r, r = decR s q := ⟨_, rfl⟩
      obtain ⟨d, hd⟩ : ∃ d, d = decN s q := ⟨_, rfl⟩
      rw [← hd] at hdn hdl
      have HN : Hid (allR s = (pre ++ [⟨r, q, q + d, line, col⟩]) ++ restG (decR s) s (q + d) (nextLine r line) (nextCol r col)) := by
        unfold Hid; rw [HE.out, restG_cons _ _ _ _ _ hlt, List.append_assoc, hr, hd]; rfl
      have HFS := Lib.hid (rnFlat_snoc .i64 pre ⟨r, q, q + d, line, col⟩)
      have HRD := Lib.hid (And.intro hr hd)
      clear hr hd HE
      by_cases h10 : r = 10
      · have t10 : (r == 10) = true := by simp [h10]
        have HNL : Hid (nextLine r line = line + 1 ∧ nextCol r col = 1) := by unfold Hid nextLine nextCol; simp [h10]
        clear h10
        go_wp2_with (first | (go_at_call 69; refine (rfirst_any s q _ hlt hs).mono ?_; rintro e w' ⟨rfl, rfl⟩; rw [← HRD.out.1, ← HRD.out.2]) | (at_builtin; refine app1 wr #[.int .i64 r, .int .i64 q, .int .i64 ((q : Int) + d), .int .i64 line, .int .i64 col] rfl _ _ 57 rfl w.heap.size 61 _ 5 40 Tryz.underlying57 info_rr rfl (by decide) (by decide) _ _ _ rfl (by exact hown) rfl (by simp) rfl (by simp [Value.oneCell']) (by omega) hsz ?_; intro v' w1 hown' hg' hb'))
        go_roundw
        case rel => exact ⟨pre ++ [⟨r, q, q + d, line, col⟩], q + d, line + 1, 1, by go_num, rfl, rfl, hdl, by simp; omega, by omega, by omega, by omega, by omega, by rw [HFS.out, List.length_append]; exact hown', hb.trans hb', by have := HN.out; rw [HNL.out.1, HNL.out.2] at this; exact this⟩
        case measure => simp [intOf]; omega
      · have t10 : (r == 10) = false := by simp [h10]
        have HNL : Hid (nextLine r line = line ∧ nextCol r col = col + 1) := by unfold Hid nextLine nextCol; simp [h10]
        clear h10
        go_wp2_with (first | (go_at_call 69; refine (rfirst_any s q _ hlt hs).mono ?_; rintro e w' ⟨rfl, rfl⟩; rw [← HRD.out.1, ← HRD.out.2]) | (at_builtin; refine app1 wr #[.int .i64 r, .int .i64 q, .int .i64 ((q : Int) + d), .int .i64 line, .int .i64 col] rfl _ _ 57 rfl w.heap.size 61 _ 5 40 Tryz.underlying57 info_rr rfl (by decide) (by decide) _ _ _ rfl (by exact hown) rfl (by simp) rfl (by simp [Value.oneCell']) (by omega) hsz ?_; intro v' w1 hown' hg' hb'))
        go_roundw
        case rel => exact ⟨pre ++ [⟨r, q, q + d, line, col⟩], q + d, line, col + 1, by go_num, rfl, rfl, hdl, by simp; omega, by omega, by omega, by omega, by omega, by rw [HFS.out, List.length_append]; exact hown', hb.trans hb', by have := HN.out; rw [HNL.out.1, HNL.out.2] at this; exact this⟩
        case measure => simp [intOf]; omega
    · have HF : Hid (allR s = pre) := by unfold Hid; rw [HE.out, restG_nil _ _ _ _ _ hlt, List.append_nil]
      have hqz : ¬ (q : Int) < (s.size : Int) := by omega
      have HO := Lib.hid hown; clear hown
      go_wp2
      go_ret
      exact ⟨_, rfl, by rw [HF.out]; exact HO.out, hb⟩

set_option maxHeartbeats 400000 in
theorem rrunes_ok (s : ByteArray) (w : World) (hs : s.size ≤ 4294967296) (hl : (allR s).length ≤ 16384) :
    Calls Tryz.prog 17 #[.string s] w fun e w' => ∃ v, e = .returned (.tuple #[v, .int .i64 0]) ∧ w'.ownsRow w.heap.size 61 5 v (allR s).length (rnFlat .i64 (allR s)) ∧ Below w.heap.size w w' := by
  go_enter Tryz.func17, Tryz.ntmps17
  go_wp2_with fail
  refine (rall_any s _ hs).mono ?_
  rintro e w1 ⟨v, rfl, hown, hb⟩
  obtain ⟨ad, cap, rfl⟩ := owns_len hown
  have HO := Lib.hid hown; clear hown
  go_wp2
  go_ret2
  exact ⟨_, rfl, HO.out, hb⟩

set_option maxHeartbeats 400000 in
theorem rrunes_long (s : ByteArray) (w : World) (hs : s.size ≤ 4294967296) (hl : 16384 < (allR s).length) :
    Calls Tryz.prog 17 #[.string s] w fun e w' => e = .returned (.tuple #[.slice none 0 0, .int .i64 3]) ∧ Below w.heap.size w w' := by
  go_enter Tryz.func17, Tryz.ntmps17
  go_wp2_with fail
  refine (rall_any s _ hs).mono ?_
  rintro e w1 ⟨v, rfl, hown, hb⟩
  obtain ⟨ad, cap, rfl⟩ := owns_len hown
  clear hown
  have hlz : ¬ ((allR s).length : Int) ≤ 16384 := by omega
  go_wp2
  go_ret2
  exact ⟨rfl, hb⟩

theorem end_list (s : ByteArray) (l : List Rn) (x : Rn) (h : allR s = l ++ [x]) : endL s = nextLine x.r x.line ∧ endC s = nextCol x.r x.col := by
  have key : ∀ k p line col l x, runesAt (decR s) s k p line col = l ++ [x] → s.size ≤ p + k → endAt s k p line col = (nextLine x.r x.line, nextCol x.r x.col) := by
    intro k
    induction k with
    | zero => intro p line col l x h _; simp [runesAt] at h
    | succ k ih =>
      intro p line col l x h hk
      simp only [runesAt] at h
      rw [endAt]
      by_cases hp : p < s.size
      · have hd := decN_pos s p
        rw [if_pos hp] at h ⊢
        cases l with
        | nil =>
          simp only [List.nil_append, List.cons.injEq] at h
          obtain ⟨rfl, h2⟩ := h
          by_cases hq : p + decN s p < s.size
          · obtain ⟨j, hj⟩ : ∃ j, k = j + 1 := ⟨k - 1, by omega⟩
            subst hj
            simp only [runesAt] at h2
            rw [if_pos hq] at h2; cases h2
          · cases k with
            | zero => rfl
            | succ j => rw [endAt, if_neg hq]
        | cons y l =>
          simp only [List.cons_append, List.cons.injEq] at h
          exact ih _ _ _ l x h.2 (by omega)
      · rw [if_neg hp] at h; simp at h
  have := key (s.size - 0) 0 1 1 l x h (by omega)
  unfold endL endC endP
  rw [this]; exact ⟨rfl, rfl⟩

theorem end_nil (s : ByteArray) (h : allR s = []) : endL s = 1 ∧ endC s = 1 := by
  have hz : ¬ 0 < s.size := by
    intro hp
    unfold allR at h
    rw [restG_cons _ _ _ _ _ hp] at h; cases h
  unfold endL endC
  rw [endP_end s 0 1 1 hz]; exact ⟨rfl, rfl⟩

theorem PosAt.storedCol {w : World} {b : Nat} {t : TypeId} {line col : Int} (h : PosAt w b t line col) (c' : Int) : PosAt (w.setCell ⟨b, 1, none⟩ (.int .i64 c')) b t line c' := heap_setCell_same w b 1 _ t (.int .i64 c') h
theorem PosAt.past {w : World} {b : Nat} {t : TypeId} {line col : Int} (h : PosAt w b t line col) {p : Addr} (hne : b ≠ p.block) (u : Value) : PosAt (w.setCell p u) b t line col := (Below.heap_setCell w p u b hne).trans h
theorem cell_past {w : World} {p : Addr} {u v : Value} {g j : Nat} (h : w.cell? ⟨g, j, none⟩ = some v) (hne : g ≠ p.block) : (w.setCell p u).cell? ⟨g, j, none⟩ = some v :=
  (World.cell?_of_block (a := ⟨g, j, none⟩) (Below.heap_setCell w p u g hne)).trans h

theorem runesAt_bd (g : Nat → Int) (s : ByteArray) (k p : Nat) (line col : Int) (a : 0 ≤ line ∧ line ≤ p + 1 ∧ 0 ≤ col ∧ col ≤ p + 1) (y : Rn) (h : y ∈ runesAt g s k p line col) : 0 ≤ y.line ∧ y.line ≤ s.size + 1 ∧ 0 ≤ y.col ∧ y.col ≤ s.size + 1 := by
  induction k generalizing p line col with
  | zero => simp [runesAt] at h
  | succ k ih =>
    simp only [runesAt] at h
    split at h
    · rename_i hp
      rcases List.mem_cons.1 h with rfl | h
      · obtain ⟨a1, a2, a3, a4⟩ := a
        exact ⟨a1, by show line ≤ _; omega, a3, by show col ≤ _; omega⟩
      · exact ih _ _ _ (next_bd _ _ _ _ _ (decN_pos s p) a) h
    · simp at h
theorem allR_bd (s : ByteArray) (y : Rn) (h : y ∈ allR s) : 0 ≤ y.line ∧ y.line ≤ s.size + 1 ∧ 0 ≤ y.col ∧ y.col ≤ s.size + 1 := runesAt_bd _ _ _ _ _ _ (by omega) _ h

set_option maxRecDepth 100000 in
set_option maxHeartbeats 400000 in
theorem rend_any (s : ByteArray) (w : World) (hs : s.size ≤ 4294967296) :
    Calls Tryz.prog 19 #[.string s] w fun e w' => e = .returned (.agg #[.int .i64 (endL s), .int .i64 (endC s)]) ∧ Below w.heap.size w w' := by
  have HS : Hid (∀ w1, Below (w.heap.size + 1 + 1) ((w.alloc (.cells #[.int .i64 0, .int .i64 0] 26)).alloc (.cells #[.int .i64 1, .int .i64 1] 26)) w1 → PosAt w1 w.heap.size 26 0 0 ∧ PosAt w1 (w.heap.size + 1) 26 1 1 ∧ Below w.heap.size w w1) := by
    intro w1 hb
    refine ⟨?_, ?_, ?_⟩
    · refine (hb.block _ (by omega)).trans ?_
      rw [Below.heap_alloc _ _ _ (by simp)]
      exact heap_alloc_new w _
    · refine (hb.block _ (by omega)).trans ?_
      have := heap_alloc_new (w.alloc (.cells #[.int .i64 0, .int .i64 0] 26)) (.cells #[.int .i64 1, .int .i64 1] 26)
      simpa using this
    · exact (((Below.refl _ w).alloc (Nat.le_refl _) _).alloc (by simp) _).trans (hb.mono (by omega))
  rcases (show allR s = [] ∨ ∃ l x, allR s = l ++ [x] by rcases List.eq_nil_or_concat (allR s) with h | ⟨a, b, h⟩ <;> simp_all) with h | ⟨l, x, h⟩
  · have HE := Lib.hid (end_nil s h)
    have HL : Hid ((allR s).length = 0) := by unfold Hid; rw [h]; rfl
    clear h
    go_enter Tryz.func19, Tryz.ntmps19
    go_wp2_with fail
    refine (rall_any s _ hs).mono ?_
    rintro e w1 ⟨v, rfl, hown, hb⟩
    rw [HL.out] at hown
    obtain ⟨ad, cap, rfl⟩ := owns_len hown
    obtain ⟨p0, p1, hlow⟩ := HS.out w1 (by simpa using hb)
    obtain ⟨c0, c1, f0, f1⟩ := p0.facts
    obtain ⟨d0, d1, e0, e1⟩ := p1.facts
    obtain ⟨q0, q1, q2, q3⟩ := (p0.stored 1 1).facts
    clear hown hb p0 p1
    go_wp2
    exact bodyPost_ret (v := .agg #[.int .i64 1, .int .i64 1]) (by simp [results, Tryz.results19, go_sem, q0, q1]) rfl ⟨by rw [HE.out.1, HE.out.2], (hlow.setCell (p := ⟨w.heap.size, 0, none⟩) (Nat.le_refl _) _).setCell (p := ⟨w.heap.size, 1, none⟩) (Nat.le_refl _) _⟩
  · have HE := Lib.hid (end_list s l x h)
    obtain ⟨m, hm⟩ : ∃ m, m = l.length := ⟨_, rfl⟩
    have HL : Hid ((allR s).length = m + 1) := by unfold Hid; rw [h, hm]; simp
    have HX : Hid ((allR s)[m]? = some x) := by unfold Hid; rw [h, hm]; simp
    have hlen := restG_len (decR s) s 0 1 1
    have hmz : m ≤ 4294967296 := by
      have := HL.out; unfold allR at this; omega
    have hlx := allR_bd s x (by rw [h]; simp)
    obtain ⟨b0, b1, b2, b3⟩ := hlx
    have b1' : x.line ≤ 4294967297 := by omega
    have b3' : x.col ≤ 4294967297 := by omega
    clear h hm hlen
    have key : ∀ (w1 : World) (v : Value), w1.ownsRow (w.heap.size + 1 + 1) 61 5 v (m + 1) (rnFlat .i64 (allR s)) → ∃ g cap, v = .slice (some ⟨g, 0, none⟩) (m + 1) cap ∧ w.heap.size + 2 ≤ g ∧ w1.cell? ⟨g, m * 5, none⟩ = some (.int .i64 x.r) ∧ w1.cell? ⟨g, m * 5 + 3, none⟩ = some (.int .i64 x.line) ∧ w1.cell? ⟨g, m * 5 + 4, none⟩ = some (.int .i64 x.col) := by
      intro w1 v ho
      obtain ⟨g, cap, rfl, hg, hgs⟩ := owns_shape ho (by omega)
      exact ⟨g, cap, rfl, by omega, (World.ownsRow.cellAt ho (m * 5) (by omega)).trans (rnFlat_get .i64 _ m 0 x HX.out (by omega)), (World.ownsRow.cellAt ho (m * 5 + 3) (by omega)).trans (rnFlat_get .i64 _ m 3 x HX.out (by omega)), (World.ownsRow.cellAt ho (m * 5 + 4) (by omega)).trans (rnFlat_get .i64 _ m 4 x HX.out (by omega))⟩
    have HK := Lib.hid key; clear key
    by_cases h10 : x.r = 10
    · have t10 : (x.r == 10) = true := by simp [h10]
      have HE2 : Hid (endL s = x.line + 1 ∧ endC s = 1) := by
        unfold Hid; rw [HE.out.1, HE.out.2]; unfold nextLine nextCol; simp [h10]
      clear h10
      go_enter Tryz.func19, Tryz.ntmps19
      go_wp2_with fail
      refine (rall_any s _ hs).mono ?_
      rintro e w1 ⟨v, rfl, hown, hb⟩
      rw [HL.out] at hown
      obtain ⟨g, cap, rfl, hg, g0, g3, g4⟩ := HK.out w1 v (by simpa using hown)
      obtain ⟨p0, p1, hlow⟩ := HS.out w1 (by simpa using hb)
      obtain ⟨c0, c1, f0, f1⟩ := p0.facts
      obtain ⟨d0, d1, e0, e1⟩ := p1.facts
      have HLOW := Lib.hid hlow
      have hgb2 : g ≠ w.heap.size + 1 := by omega
      have hgb3 : g ≠ w.heap.size := by omega
      have pA := p1.stored x.line x.col
      have pB := pA.storedCol (x.col + 1)
      have hbb : w.heap.size ≠ w.heap.size + 1 := by omega
      have zA := ((p0.past (p := ⟨w.heap.size + 1, 0, none⟩) hbb (.int .i64 x.line)).past (p := ⟨w.heap.size + 1, 1, none⟩) hbb (.int .i64 x.col)).past (p := ⟨w.heap.size + 1, 1, none⟩) hbb (.int .i64 (x.col + 1))
      have hlA := ((hlow.setCell (p := ⟨w.heap.size + 1, 0, none⟩) (by show w.heap.size ≤ w.heap.size + 1; omega) (.int .i64 x.line)).setCell (p := ⟨w.heap.size + 1, 1, none⟩) (by show w.heap.size ≤ w.heap.size + 1; omega) (.int .i64 x.col)).setCell (p := ⟨w.heap.size + 1, 1, none⟩) (by show w.heap.size ≤ w.heap.size + 1; omega) (.int .i64 (x.col + 1))
      have pC := pB.stored (x.line + 1) 1
      have zC := (zA.past (p := ⟨w.heap.size + 1, 0, none⟩) hbb (.int .i64 (x.line + 1))).past (p := ⟨w.heap.size + 1, 1, none⟩) hbb (.int .i64 1)
      have hlC := (hlA.setCell (p := ⟨w.heap.size + 1, 0, none⟩) (by show w.heap.size ≤ w.heap.size + 1; omega) (.int .i64 (x.line + 1))).setCell (p := ⟨w.heap.size + 1, 1, none⟩) (by show w.heap.size ≤ w.heap.size + 1; omega) (.int .i64 1)
      have HLD := Lib.hid ((hlC.setCell (p := ⟨w.heap.size, 0, none⟩) (Nat.le_refl _) (.int .i64 (x.line + 1))).setCell (p := ⟨w.heap.size, 1, none⟩) (Nat.le_refl _) (.int .i64 1))
      obtain ⟨r0, r1, r2, r3⟩ := pC.facts
      obtain ⟨u0, u1, u2, u3⟩ := zC.facts
      obtain ⟨s0, s1, s2, s3⟩ := (zC.stored (x.line + 1) 1).facts
      have gA : ((w1.setCell ⟨w.heap.size + 1, 0, none⟩ (.int .i64 x.line)).setCell ⟨w.heap.size + 1, 1, none⟩ (.int .i64 x.col)).cell? ⟨g, m * 5, none⟩ = some (.int .i64 x.r) := cell_past (cell_past g0 hgb2) hgb2
      have gB := cell_past (p := ⟨w.heap.size + 1, 1, none⟩) (u := .int .i64 (x.col + 1)) gA hgb2
      obtain ⟨a0, a1, a2, a3⟩ := pA.facts
      obtain ⟨o0, o1, o2, o3⟩ := pB.facts
      clear hown hb p0 p1 hlow HS HK HX HL HE b1 b3 hg pA pB pC zA zC hlA hlC hbb
      go_wp2
      exact bodyPost_ret (v := .agg #[.int .i64 (x.line + 1), .int .i64 1]) (by simp [results, Tryz.results19, go_sem, s0, s1]) rfl ⟨by rw [HE2.out.1, HE2.out.2], HLD.out⟩
    · have t10 : (x.r == 10) = false := by simp [h10]
      have HE2 : Hid (endL s = x.line ∧ endC s = x.col + 1) := by
        unfold Hid; rw [HE.out.1, HE.out.2]; unfold nextLine nextCol; simp [h10]
      clear h10
      go_enter Tryz.func19, Tryz.ntmps19
      go_wp2_with fail
      refine (rall_any s _ hs).mono ?_
      rintro e w1 ⟨v, rfl, hown, hb⟩
      rw [HL.out] at hown
      obtain ⟨g, cap, rfl, hg, g0, g3, g4⟩ := HK.out w1 v (by simpa using hown)
      obtain ⟨p0, p1, hlow⟩ := HS.out w1 (by simpa using hb)
      obtain ⟨c0, c1, f0, f1⟩ := p0.facts
      obtain ⟨d0, d1, e0, e1⟩ := p1.facts
      have HLOW := Lib.hid hlow
      have hgb2 : g ≠ w.heap.size + 1 := by omega
      have hgb3 : g ≠ w.heap.size := by omega
      have pA := p1.stored x.line x.col
      have pB := pA.storedCol (x.col + 1)
      have hbb : w.heap.size ≠ w.heap.size + 1 := by omega
      have zA := ((p0.past (p := ⟨w.heap.size + 1, 0, none⟩) hbb (.int .i64 x.line)).past (p := ⟨w.heap.size + 1, 1, none⟩) hbb (.int .i64 x.col)).past (p := ⟨w.heap.size + 1, 1, none⟩) hbb (.int .i64 (x.col + 1))
      have hlA := ((hlow.setCell (p := ⟨w.heap.size + 1, 0, none⟩) (by show w.heap.size ≤ w.heap.size + 1; omega) (.int .i64 x.line)).setCell (p := ⟨w.heap.size + 1, 1, none⟩) (by show w.heap.size ≤ w.heap.size + 1; omega) (.int .i64 x.col)).setCell (p := ⟨w.heap.size + 1, 1, none⟩) (by show w.heap.size ≤ w.heap.size + 1; omega) (.int .i64 (x.col + 1))
      have HLD := Lib.hid ((hlA.setCell (p := ⟨w.heap.size, 0, none⟩) (Nat.le_refl _) (.int .i64 x.line)).setCell (p := ⟨w.heap.size, 1, none⟩) (Nat.le_refl _) (.int .i64 (x.col + 1)))
      obtain ⟨u0, u1, u2, u3⟩ := zA.facts
      obtain ⟨s0, s1, s2, s3⟩ := (zA.stored x.line (x.col + 1)).facts
      have gA : ((w1.setCell ⟨w.heap.size + 1, 0, none⟩ (.int .i64 x.line)).setCell ⟨w.heap.size + 1, 1, none⟩ (.int .i64 x.col)).cell? ⟨g, m * 5, none⟩ = some (.int .i64 x.r) := cell_past (cell_past g0 hgb2) hgb2
      have gB := cell_past (p := ⟨w.heap.size + 1, 1, none⟩) (u := .int .i64 (x.col + 1)) gA hgb2
      obtain ⟨a0, a1, a2, a3⟩ := pA.facts
      obtain ⟨o0, o1, o2, o3⟩ := pB.facts
      clear hown hb p0 p1 hlow HS HK HX HL HE b1 b3 hg pA pB zA hlA hbb
      go_wp2
      exact bodyPost_ret (v := .agg #[.int .i64 x.line, .int .i64 (x.col + 1)]) (by simp [results, Tryz.results19, go_sem, s0, s1]) rfl ⟨by rw [HE2.out.1, HE2.out.2], HLD.out⟩

end Go.Proofs.YtignjhbajjephaaGreatDoor

namespace Go.Proofs.YtignjhbajjephaaGreatDoor
open Go.RowKit

set_option maxHeartbeats 400000 in
theorem rsmallB_any (c : Int) (w : World) : Calls Tryz.prog 39 #[.int .i64 c] w fun e w' => e = .returned (.bool (smallB c)) ∧ w = w' := by
  have H : Hid (smallB c = decide (97 ≤ c ∧ c ≤ 122)) := rfl
  rcases (show c < 97 ∨ (97 ≤ c ∧ c ≤ 122) ∨ 122 < c by omega) with h | ⟨h, h'⟩ | h
  all_goals
    go_enter Tryz.func39, Tryz.ntmps39
    go_wp2
    go_ret
    exact ⟨ret_bool (by rw [H.out]; simp; try omega), rfl⟩

set_option maxHeartbeats 400000 in
theorem rgreatB_any (c : Int) (w : World) : Calls Tryz.prog 40 #[.int .i64 c] w fun e w' => e = .returned (.bool (greatB c)) ∧ w = w' := by
  have H : Hid (greatB c = decide (65 ≤ c ∧ c ≤ 90)) := rfl
  rcases (show c < 65 ∨ (65 ≤ c ∧ c ≤ 90) ∨ 90 < c by omega) with h | ⟨h, h'⟩ | h
  all_goals
    go_enter Tryz.func40, Tryz.ntmps40
    go_wp2
    go_ret
    exact ⟨ret_bool (by rw [H.out]; simp; try omega), rfl⟩

set_option maxHeartbeats 400000 in
theorem rdigitB_any (c : Int) (w : World) : Calls Tryz.prog 42 #[.int .i64 c] w fun e w' => e = .returned (.bool (digitB c)) ∧ w = w' := by
  have H : Hid (digitB c = decide (48 ≤ c ∧ c ≤ 57)) := rfl
  rcases (show c < 48 ∨ (48 ≤ c ∧ c ≤ 57) ∨ 57 < c by omega) with h | ⟨h, h'⟩ | h
  all_goals
    go_enter Tryz.func42, Tryz.ntmps42
    go_wp2
    go_ret
    exact ⟨ret_bool (by rw [H.out]; simp; try omega), rfl⟩

/-- the reference's runes in memory -/
def RR (w : World) (v : Value) (L : List Rn) : Prop := ∃ B, w.ownsRow B 61 5 v L.length (rnFlat .i64 L)
theorem RR.keep {w w' : World} {v : Value} {L : List Rn} (h : RR w v L) (hb : Below w.heap.size w w') : RR w' v L := by
  obtain ⟨B, h⟩ := h; exact ⟨B, owns_below h hb⟩

set_option maxHeartbeats 400000 in
theorem rat_any {w : World} {v : Value} {L : List Rn} (h : RR w v L) (k : Int) (h0 : 0 ≤ k) (hk : k ≤ 4294967296) :
    Calls Tryz.prog 43 #[v, .int .i64 k] w fun e w' => e = .returned (.int .i64 (rAt L k.toNat)) ∧ w = w' := by
  obtain ⟨i, rfl⟩ := Int.eq_ofNat_of_zero_le h0
  rw [Int.toNat_natCast]
  obtain ⟨B, h⟩ := h
  by_cases hlt : i < L.length
  · obtain ⟨x, hx⟩ : ∃ x, L[i]? = some x := ⟨_, List.getElem?_eq_getElem hlt⟩
    have HA := Lib.hid (rAt_some hx)
    obtain ⟨g, cap, rfl, hg, hgs⟩ := owns_shape h (by omega)
    have c0 := (World.ownsRow.cellAt h (i * 5) (by omega)).trans (rnFlat_get .i64 _ i 0 x hx (by omega))
    simp only [rnCells, List.getElem?_cons_zero] at c0
    have hz : (i : Int) < (L.length : Int) := by omega
    clear h hx
    go_enter Tryz.func43, Tryz.ntmps43
    go_wp2
    go_ret
    exact ⟨by rw [HA.out]; rfl, rfl⟩
  · have HA := Lib.hid (rAt_none (L := L) (i := i) (by omega))
    obtain ⟨ad, cap, rfl⟩ := owns_len h
    have hz : ¬ (i : Int) < (L.length : Int) := by omega
    clear h
    go_enter Tryz.func43, Tryz.ntmps43
    go_wp2
    go_ret
    exact ⟨by rw [HA.out]; rfl, rfl⟩

theorem innerB_cases (c : Int) : (innerB c = true ∧ smallB c = true) ∨ (innerB c = true ∧ smallB c = false ∧ greatB c = true) ∨ (innerB c = true ∧ smallB c = false ∧ greatB c = false ∧ digitB c = true) ∨
    (smallB c = false ∧ greatB c = false ∧ digitB c = false ∧ innerB c = (c == 95)) := by
  unfold innerB letterB
  cases smallB c <;> cases greatB c <;> cases digitB c <;> simp <;> rfl

set_option maxHeartbeats 2000000 in
theorem rword_any {w : World} {v : Value} {L : List Rn} (h : RR w v L) (i : Nat) (hL : L.length ≤ 70000) (hi : i ≤ L.length) :
    Calls Tryz.prog 41 #[v, .int .i64 i] w fun e w' => e = .returned (.int .i64 (rowE innerB L i : Nat)) ∧ w = w' := by
  have HR := Lib.hid h; clear h
  go_enter Tryz.func41, Tryz.ntmps41
  go_wp2
  go_loop [1] (fun m => ∃ k : Nat, k ≤ L.length ∧ m = .int .i64 k ∧ Hid (rowE innerB L i = rowE innerB L k)) (fun m => L.length - (intOf m).toNat)
  case atStart => exact ⟨i, hi, rfl, rfl⟩
  case round =>
    obtain ⟨k, hk, rfl, HE⟩ := hrel
    have hgo : innerB (rAt L k) = true → k < L.length := by
      intro hq
      by_cases hc : k < L.length
      · exact hc
      · rw [rAt_none (by omega)] at hq; exact absurd hq (by decide)
    have hyes : innerB (rAt L k) = true → rowE innerB L i = rowE innerB L (k + 1) := fun hq => by rw [HE.out, rowE_yes _ (by decide) _ _ hq]
    have hno : innerB (rAt L k) = false → rowE innerB L i = k := fun hq => by rw [HE.out, rowE_no _ _ _ hq]
    obtain ⟨c, hc⟩ : ∃ c, c = rAt L k := ⟨_, rfl⟩
    rw [← hc] at hgo hyes hno
    have HC := Lib.hid hc; clear hc
    rcases innerB_cases c with ⟨h0, h1⟩ | ⟨h0, h1, h2⟩ | ⟨h0, h1, h2, h3⟩ | ⟨h1, h2, h3, h0⟩
    · have hlt := hgo h0
      have HY := Lib.hid (hyes h0)
      clear hgo hyes hno h0
      go_wp2_with (first | (go_at_call 43; refine (rat_any HR.out _ (by omega) (by omega)).mono ?_; rintro e w' ⟨rfl, rfl⟩; rw [Int.toNat_natCast, ← HC.out]) | (go_at_call 39; refine (rsmallB_any _ _).mono ?_; rintro e w' ⟨rfl, rfl⟩))
      go_round
      case rel => exact ⟨k + 1, by omega, by go_num, HY⟩
      case measure => simp [intOf]; omega
    · have hlt := hgo h0
      have HY := Lib.hid (hyes h0)
      clear hgo hyes hno h0
      go_wp2_with (first | (go_at_call 43; refine (rat_any HR.out _ (by omega) (by omega)).mono ?_; rintro e w' ⟨rfl, rfl⟩; rw [Int.toNat_natCast, ← HC.out]) | (go_at_call 39; refine (rsmallB_any _ _).mono ?_; rintro e w' ⟨rfl, rfl⟩) | (go_at_call 40; refine (rgreatB_any _ _).mono ?_; rintro e w' ⟨rfl, rfl⟩))
      go_round
      case rel => exact ⟨k + 1, by omega, by go_num, HY⟩
      case measure => simp [intOf]; omega
    · have hlt := hgo h0
      have HY := Lib.hid (hyes h0)
      clear hgo hyes hno h0
      go_wp2_with (first | (go_at_call 43; refine (rat_any HR.out _ (by omega) (by omega)).mono ?_; rintro e w' ⟨rfl, rfl⟩; rw [Int.toNat_natCast, ← HC.out]) | (go_at_call 39; refine (rsmallB_any _ _).mono ?_; rintro e w' ⟨rfl, rfl⟩) | (go_at_call 40; refine (rgreatB_any _ _).mono ?_; rintro e w' ⟨rfl, rfl⟩) | (go_at_call 42; refine (rdigitB_any _ _).mono ?_; rintro e w' ⟨rfl, rfl⟩))
      go_round
      case rel => exact ⟨k + 1, by omega, by go_num, HY⟩
      case measure => simp [intOf]; omega
    · cases h5 : (c == 95)
      · rw [h5] at h0
        have HN := Lib.hid (hno h0)
        clear hgo hyes hno h0
        go_wp2_with (first | (go_at_call 43; refine (rat_any HR.out _ (by omega) (by omega)).mono ?_; rintro e w' ⟨rfl, rfl⟩; rw [Int.toNat_natCast, ← HC.out]) | (go_at_call 39; refine (rsmallB_any _ _).mono ?_; rintro e w' ⟨rfl, rfl⟩) | (go_at_call 40; refine (rgreatB_any _ _).mono ?_; rintro e w' ⟨rfl, rfl⟩) | (go_at_call 42; refine (rdigitB_any _ _).mono ?_; rintro e w' ⟨rfl, rfl⟩))
        go_ret
        exact ⟨ret_int (by rw [HN.out]), rfl⟩
      · rw [h5] at h0
        have hlt := hgo h0
        have HY := Lib.hid (hyes h0)
        clear hgo hyes hno h0
        go_wp2_with (first | (go_at_call 43; refine (rat_any HR.out _ (by omega) (by omega)).mono ?_; rintro e w' ⟨rfl, rfl⟩; rw [Int.toNat_natCast, ← HC.out]) | (go_at_call 39; refine (rsmallB_any _ _).mono ?_; rintro e w' ⟨rfl, rfl⟩) | (go_at_call 40; refine (rgreatB_any _ _).mono ?_; rintro e w' ⟨rfl, rfl⟩) | (go_at_call 42; refine (rdigitB_any _ _).mono ?_; rintro e w' ⟨rfl, rfl⟩))
        go_round
        case rel => exact ⟨k + 1, by omega, by go_num, HY⟩
        case measure => simp [intOf]; omega

end Go.Proofs.YtignjhbajjephaaGreatDoor
