/- Contracts of warderref01: All, Runes, End. Contracts of warderref02's small functions. Contracts of warderref02's sign and hasGreat. Plain: the number of a text of digits, a - anywhere passed by. -/
import Derived.Test.YthlofmnmacpogaaGreatDoorDe16
import Derived.Test.YthlofmnmacpogaaGreatDoorDe14
import Derived.Test.YthlofmnmacpogaaGreatDoorDe01

namespace Go.Proofs.YthlofmnmacpogaaGreatDoor
open Go.RowKit

theorem info_rr : (Tryz.prog.info? 79).map (fun i => (i.zero, i.size, i.bytes)) = some (some (.agg #[.int .i64 0, .int .i64 0, .int .i64 0, .int .i64 0, .int .i64 0]), 5, 40) := by kernel_rfl

set_option maxRecDepth 100000 in
set_option maxHeartbeats 2000000 in
theorem rall_any (s : ByteArray) (w : World) (hs : s.size ≤ 4294967296) :
    Calls Tryz.prog 61 #[.string s] w fun e w' => ∃ v, e = .returned v ∧ w'.ownsRow w.heap.size 79 5 v (allR s).length (rnFlat .i64 (allR s)) ∧ Below w.heap.size w w' := by
  go_enter Tryz.func61, Tryz.ntmps61
  go_wp2
  go_loopw [3, 4, 5, 6, 7, 8] (fun v l c p _ _ wr => ∃ (pre : List Rn) (q : Nat) (line col : Int), p = .int .i64 q ∧ l = .int .i64 line ∧ c = .int .i64 col ∧ q ≤ s.size ∧ pre.length ≤ q ∧ 0 ≤ line ∧ line ≤ q + 1 ∧ 0 ≤ col ∧ col ≤ q + 1 ∧ wr.ownsRow w.heap.size 79 5 v pre.length (rnFlat .i64 pre) ∧ Below w.heap.size w wr ∧ Hid (allR s = pre ++ restG (decR s) s q line col)) (fun _ _ _ p _ _ _ => s.size - (intOf p).toNat)
  case atStart => exact ⟨[], 0, 1, 1, rfl, rfl, rfl, Nat.zero_le _, by simp, by omega, by omega, by omega, by omega, World.ownsRow_nil _ _ _ _, Below.refl _ _, rfl⟩
  case round =>
    obtain ⟨pre, q, line, col, rfl, rfl, rfl, hq, hpl, hl0, hl1, hl2, hl3, hown, hb, HE⟩ := hrel
    have hsz := hb.size
    by_cases hlt : q < s.size
    · have hdn := decN_pos s q
      have hdl := decN_le s q hlt
      have hqz : (q : Int) < (s.size : Int) := by omega
      obtain ⟨r, hr⟩ : ∃ r, r = decR s q := ⟨_, rfl⟩
      obtain ⟨d, hd⟩ : ∃ d, d = decN s q := ⟨_, rfl⟩
      rw [← hd] at hdn hdl
      have HN : Hid (allR s = (pre ++ [⟨r, q, q + d, line, col⟩]) ++ restG (decR s) s (q + d) (nextLine r line) (nextCol r col)) := by
        unfold Hid; rw [HE.out, restG_cons _ _ _ _ _ hlt, List.append_assoc, hr, hd]; rfl
      have HFS := Lib.hid (rnFlat_snoc .i64 pre ⟨r, q, q + d, line, col⟩)
      have HRD := Lib.hid (And.intro hr hd)
      clear hr hd HE
      by_cases h10 : r = 10
      · have t10 : (r == 10) = true := by simp [h10]
        have HNL : Hid (nextLine r line = line + 1 ∧ nextCol r col = 1) := by unfold Hid nextLine nextCol; simp [h10]
        clear h10
        go_wp2_with (first | (go_at_call 87; refine (rfirst_any s q _ hlt hs).mono ?_; rintro e w' ⟨rfl, rfl⟩; rw [← HRD.out.1, ← HRD.out.2]) | (at_builtin; refine app1 wr #[.int .i64 r, .int .i64 q, .int .i64 ((q : Int) + d), .int .i64 line, .int .i64 col] rfl _ _ 75 rfl w.heap.size 79 _ 5 40 Tryz.underlying75 info_rr rfl (by decide) (by decide) _ _ _ rfl (by exact hown) rfl (by simp) rfl (by simp [Value.oneCell']) (by omega) hsz ?_; intro v' w1 hown' hg' hb'))
        go_roundw
        case rel => exact ⟨pre ++ [⟨r, q, q + d, line, col⟩], q + d, line + 1, 1, by go_num, rfl, rfl, hdl, by simp; omega, by omega, by omega, by omega, by omega, by rw [HFS.out, List.length_append]; exact hown', hb.trans hb', by have := HN.out; rw [HNL.out.1, HNL.out.2] at this; exact this⟩
        case measure => simp [intOf]; omega
      · have t10 : (r == 10) = false := by simp [h10]
        have HNL : Hid (nextLine r line = line ∧ nextCol r col = col + 1) := by unfold Hid nextLine nextCol; simp [h10]
        clear h10
        go_wp2_with (first | (go_at_call 87; refine (rfirst_any s q _ hlt hs).mono ?_; rintro e w' ⟨rfl, rfl⟩; rw [← HRD.out.1, ← HRD.out.2]) | (at_builtin; refine app1 wr #[.int .i64 r, .int .i64 q, .int .i64 ((q : Int) + d), .int .i64 line, .int .i64 col] rfl _ _ 75 rfl w.heap.size 79 _ 5 40 Tryz.underlying75 info_rr rfl (by decide) (by decide) _ _ _ rfl (by exact hown) rfl (by simp) rfl (by simp [Value.oneCell']) (by omega) hsz ?_; intro v' w1 hown' hg' hb'))
        go_roundw
        case rel => exact ⟨pre ++ [⟨r, q, q + d, line, col⟩], q + d, line, col + 1, by go_num, rfl, rfl, hdl, by simp; omega, by omega, by omega, by omega, by omega, by rw [HFS.out, List.length_append]; exact hown', hb.trans hb', by have := HN.out; rw [HNL.out.1, HNL.out.2] at this; exact this⟩
        case measure => simp [intOf]; omega
    · have HF : Hid (allR s = pre) := by unfold Hid; rw [HE.out, restG_nil _ _ _ _ _ hlt, List.append_nil]
      have hqz : ¬ (q : Int) < (s.size : Int) := by omega
      have HO := Lib.hid hown; clear hown
      go_wp2
      go_ret
      exact ⟨_, rfl, by rw [HF.out]; exact HO.out, hb⟩

set_option maxHeartbeats 400000 in
theorem rrunes_ok (s : ByteArray) (w : World) (hs : s.size ≤ 4294967296) (hl : (allR s).length ≤ 16384) :
    Calls Tryz.prog 32 #[.string s] w fun e w' => ∃ v, e = .returned (.tuple #[v, .int .i64 0]) ∧ w'.ownsRow w.heap.size 79 5 v (allR s).length (rnFlat .i64 (allR s)) ∧ Below w.heap.size w w' := by
  go_enter Tryz.func32, Tryz.ntmps32
  go_wp2_with fail
  refine (rall_any s _ hs).mono ?_
  rintro e w1 ⟨v, rfl, hown, hb⟩
  obtain ⟨ad, cap, rfl⟩ := owns_len hown
  have HO := Lib.hid hown; clear hown
  go_wp2
  go_ret2
  exact ⟨_, rfl, HO.out, hb⟩

set_option maxHeartbeats 400000 in
theorem rrunes_long (s : ByteArray) (w : World) (hs : s.size ≤ 4294967296) (hl : 16384 < (allR s).length) :
    Calls Tryz.prog 32 #[.string s] w fun e w' => e = .returned (.tuple #[.slice none 0 0, .int .i64 3]) ∧ Below w.heap.size w w' := by
  go_enter Tryz.func32, Tryz.ntmps32
  go_wp2_with fail
  refine (rall_any s _ hs).mono ?_
  rintro e w1 ⟨v, rfl, hown, hb⟩
  obtain ⟨ad, cap, rfl⟩ := owns_len hown
  clear hown
  have hlz : ¬ ((allR s).length : Int) ≤ 16384 := by omega
  go_wp2
  go_ret2
  exact ⟨rfl, hb⟩

theorem end_list (s : ByteArray) (l : List Rn) (x : Rn) (h : allR s = l ++ [x]) : endL s = nextLine x.r x.line ∧ endC s = nextCol x.r x.col := by
  have key : ∀ k p line col l x, runesAt (decR s) s k p line col = l ++ [x] → s.size ≤ p + k → endAt s k p line col = (nextLine x.r x.line, nextCol x.r x.col) := by
    intro k
    induction k with
    | zero => intro p line col l x h _; simp [runesAt] at h
    | succ k ih =>
      intro p line col l x h hk
      simp only [runesAt] at h
      rw [endAt]
      by_cases hp : p < s.size
      · have hd := decN_pos s p
        rw [if_pos hp] at h ⊢
        cases l with
        | nil =>
          simp only [List.nil_append, List.cons.injEq] at h
          obtain ⟨rfl, h2⟩ := h
          by_cases hq : p + decN s p < s.size
          · obtain ⟨j, hj⟩ : ∃ j, k = j + 1 := ⟨k - 1, by omega⟩
            subst hj
            simp only [runesAt] at h2
            rw [if_pos hq] at h2; cases h2
          · cases k with
            | zero => rfl
            | succ j => rw [endAt, if_neg hq]
        | cons y l =>
          simp only [List.cons_append, List.cons.injEq] at h
          exact ih _ _ _ l x h.2 (by omega)
      · rw [if_neg hp] at h; simp at h
  have := key (s.size - 0) 0 1 1 l x h (by omega)
  unfold endL endC endP
  rw [this]; exact ⟨rfl, rfl⟩

theorem end_nil (s : ByteArray) (h : allR s = []) : endL s = 1 ∧ endC s = 1 := by
  have hz : ¬ 0 < s.size := by
    intro hp
    unfold allR at h
    rw [restG_cons _ _ _ _ _ hp] at h; cases h
  unfold endL endC
  rw [endP_end s 0 1 1 hz]; exact ⟨rfl, rfl⟩

theorem PosAt.storedCol {w : World} {b : Nat} {t : TypeId} {line col : Int} (h : PosAt w b t line col) (c' : Int) : PosAt (w.setCell ⟨b, 1, none⟩ (.int .i64 c')) b t line c' := heap_setCell_same w b 1 _ t (.int .i64 c') h
theorem PosAt.past {w : World} {b : Nat} {t : TypeId} {line col : Int} (h : PosAt w b t line col) {p : Addr} (hne : b ≠ p.block) (u : Value) : PosAt (w.setCell p u) b t line col := (Below.heap_setCell w p u b hne).trans h
theorem cell_past {w : World} {p : Addr} {u v : Value} {g j : Nat} (h : w.cell? ⟨g, j, none⟩ = some v) (hne : g ≠ p.block) : (w.setCell p u).cell? ⟨g, j, none⟩ = some v :=
  (World.cell?_of_block (a := ⟨g, j, none⟩) (Below.heap_setCell w p u g hne)).trans h

theorem runesAt_bd (g : Nat → Int) (s : ByteArray) (k p : Nat) (line col : Int) (a : 0 ≤ line ∧ line ≤ p + 1 ∧ 0 ≤ col ∧ col ≤ p + 1) (y : Rn) (h : y ∈ runesAt g s k p line col) : 0 ≤ y.line ∧ y.line ≤ s.size + 1 ∧ 0 ≤ y.col ∧ y.col ≤ s.size + 1 := by
  induction k generalizing p line col with
  | zero => simp [runesAt] at h
  | succ k ih =>
    simp only [runesAt] at h
    split at h
    · rename_i hp
      rcases List.mem_cons.1 h with rfl | h
      · obtain ⟨a1, a2, a3, a4⟩ := a
        exact ⟨a1, by show line ≤ _; omega, a3, by show col ≤ _; omega⟩
      · exact ih _ _ _ (next_bd _ _ _ _ _ (decN_pos s p) a) h
    · simp at h
theorem allR_bd (s : ByteArray) (y : Rn) (h : y ∈ allR s) : 0 ≤ y.line ∧ y.line ≤ s.size + 1 ∧ 0 ≤ y.col ∧ y.col ≤ s.size + 1 := runesAt_bd _ _ _ _ _ _ (by omega) _ h

set_option maxRecDepth 100000 in
set_option maxHeartbeats 400000 in
theorem rend_any (s : ByteArray) (w : World) (hs : s.size ≤ 4294967296) :
    Calls Tryz.prog 34 #[.string s] w fun e w' => e = .returned (.agg #[.int .i64 (endL s), .int .i64 (endC s)]) ∧ Below w.heap.size w w' := by
  have HS : Hid (∀ w1, Below (w.heap.size + 1 + 1) ((w.alloc (.cells #[.int .i64 0, .int .i64 0] 26)).alloc (.cells #[.int .i64 1, .int .i64 1] 26)) w1 → PosAt w1 w.heap.size 26 0 0 ∧ PosAt w1 (w.heap.size + 1) 26 1 1 ∧ Below w.heap.size w w1) := by
    intro w1 hb
    refine ⟨?_, ?_, ?_⟩
    · refine (hb.block _ (by omega)).trans ?_
      rw [Below.heap_alloc _ _ _ (by simp)]
      exact heap_alloc_new w _
    · refine (hb.block _ (by omega)).trans ?_
      have := heap_alloc_new (w.alloc (.cells #[.int .i64 0, .int .i64 0] 26)) (.cells #[.int .i64 1, .int .i64 1] 26)
      simpa using this
    · exact (((Below.refl _ w).alloc (Nat.le_refl _) _).alloc (by simp) _).trans (hb.mono (by omega))
  rcases (show allR s = [] ∨ ∃ l x, allR s = l ++ [x] by rcases List.eq_nil_or_concat (allR s) with h | ⟨a, b, h⟩ <;> simp_all) with h | ⟨l, x, h⟩
  · have HE := Lib.hid (end_nil s h)
    have HL : Hid ((allR s).length = 0) := by unfold Hid; rw [h]; rfl
    clear h
    go_enter Tryz.func34, Tryz.ntmps34
    go_wp2_with fail
    refine (rall_any s _ hs).mono ?_
    rintro e w1 ⟨v, rfl, hown, hb⟩
    rw [HL.out] at hown
    obtain ⟨ad, cap, rfl⟩ := owns_len hown
    obtain ⟨p0, p1, hlow⟩ := HS.out w1 (by simpa using hb)
    obtain ⟨c0, c1, f0, f1⟩ := p0.facts
    obtain ⟨d0, d1, e0, e1⟩ := p1.facts
    obtain ⟨q0, q1, q2, q3⟩ := (p0.stored 1 1).facts
    clear hown hb p0 p1
    go_wp2
    exact bodyPost_ret (v := .agg #[.int .i64 1, .int .i64 1]) (by simp [results, Tryz.results34, go_sem, q0, q1]) rfl ⟨by rw [HE.out.1, HE.out.2], (hlow.setCell (p := ⟨w.heap.size, 0, none⟩) (Nat.le_refl _) _).setCell (p := ⟨w.heap.size, 1, none⟩) (Nat.le_refl _) _⟩
  · have HE := Lib.hid (end_list s l x h)
    obtain ⟨m, hm⟩ : ∃ m, m = l.length := ⟨_, rfl⟩
    have HL : Hid ((allR s).length = m + 1) := by unfold Hid; rw [h, hm]; simp
    have HX : Hid ((allR s)[m]? = some x) := by unfold Hid; rw [h, hm]; simp
    have hlen := restG_len (decR s) s 0 1 1
    have hmz : m ≤ 4294967296 := by
      have := HL.out; unfold allR at this; omega
    have hlx := allR_bd s x (by rw [h]; simp)
    obtain ⟨b0, b1, b2, b3⟩ := hlx
    have b1' : x.line ≤ 4294967297 := by omega
    have b3' : x.col ≤ 4294967297 := by omega
    clear h hm hlen
    have key : ∀ (w1 : World) (v : Value), w1.ownsRow (w.heap.size + 1 + 1) 79 5 v (m + 1) (rnFlat .i64 (allR s)) → ∃ g cap, v = .slice (some ⟨g, 0, none⟩) (m + 1) cap ∧ w.heap.size + 2 ≤ g ∧ w1.cell? ⟨g, m * 5, none⟩ = some (.int .i64 x.r) ∧ w1.cell? ⟨g, m * 5 + 3, none⟩ = some (.int .i64 x.line) ∧ w1.cell? ⟨g, m * 5 + 4, none⟩ = some (.int .i64 x.col) := by
      intro w1 v ho
      obtain ⟨g, cap, rfl, hg, hgs⟩ := owns_shape ho (by omega)
      exact ⟨g, cap, rfl, by omega, (World.ownsRow.cellAt ho (m * 5) (by omega)).trans (rnFlat_get .i64 _ m 0 x HX.out (by omega)), (World.ownsRow.cellAt ho (m * 5 + 3) (by omega)).trans (rnFlat_get .i64 _ m 3 x HX.out (by omega)), (World.ownsRow.cellAt ho (m * 5 + 4) (by omega)).trans (rnFlat_get .i64 _ m 4 x HX.out (by omega))⟩
    have HK := Lib.hid key; clear key
    by_cases h10 : x.r = 10
    · have t10 : (x.r == 10) = true := by simp [h10]
      have HE2 : Hid (endL s = x.line + 1 ∧ endC s = 1) := by
        unfold Hid; rw [HE.out.1, HE.out.2]; unfold nextLine nextCol; simp [h10]
      clear h10
      go_enter Tryz.func34, Tryz.ntmps34
      go_wp2_with fail
      refine (rall_any s _ hs).mono ?_
      rintro e w1 ⟨v, rfl, hown, hb⟩
      rw [HL.out] at hown
      obtain ⟨g, cap, rfl, hg, g0, g3, g4⟩ := HK.out w1 v (by simpa using hown)
      obtain ⟨p0, p1, hlow⟩ := HS.out w1 (by simpa using hb)
      obtain ⟨c0, c1, f0, f1⟩ := p0.facts
      obtain ⟨d0, d1, e0, e1⟩ := p1.facts
      have HLOW := Lib.hid hlow
      have hgb2 : g ≠ w.heap.size + 1 := by omega
      have hgb3 : g ≠ w.heap.size := by omega
      have pA := p1.stored x.line x.col
      have pB := pA.storedCol (x.col + 1)
      have hbb : w.heap.size ≠ w.heap.size + 1 := by omega
      have zA := ((p0.past (p := ⟨w.heap.size + 1, 0, none⟩) hbb (.int .i64 x.line)).past (p := ⟨w.heap.size + 1, 1, none⟩) hbb (.int .i64 x.col)).past (p := ⟨w.heap.size + 1, 1, none⟩) hbb (.int .i64 (x.col + 1))
      have hlA := ((hlow.setCell (p := ⟨w.heap.size + 1, 0, none⟩) (by show w.heap.size ≤ w.heap.size + 1; omega) (.int .i64 x.line)).setCell (p := ⟨w.heap.size + 1, 1, none⟩) (by show w.heap.size ≤ w.heap.size + 1; omega) (.int .i64 x.col)).setCell (p := ⟨w.heap.size + 1, 1, none⟩) (by show w.heap.size ≤ w.heap.size + 1; omega) (.int .i64 (x.col + 1))
      have pC := pB.stored (x.line + 1) 1
      have zC := (zA.past (p := ⟨w.heap.size + 1, 0, none⟩) hbb (.int .i64 (x.line + 1))).past (p := ⟨w.heap.size + 1, 1, none⟩) hbb (.int .i64 1)
      have hlC := (hlA.setCell (p := ⟨w.heap.size + 1, 0, none⟩) (by show w.heap.size ≤ w.heap.size + 1; omega) (.int .i64 (x.line + 1))).setCell (p := ⟨w.heap.size + 1, 1, none⟩) (by show w.heap.size ≤ w.heap.size + 1; omega) (.int .i64 1)
      have HLD := Lib.hid ((hlC.setCell (p := ⟨w.heap.size, 0, none⟩) (Nat.le_refl _) (.int .i64 (x.line + 1))).setCell (p := ⟨w.heap.size, 1, none⟩) (Nat.le_refl _) (.int .i64 1))
      obtain ⟨r0, r1, r2, r3⟩ := pC.facts
      obtain ⟨u0, u1, u2, u3⟩ := zC.facts
      obtain ⟨s0, s1, s2, s3⟩ := (zC.stored (x.line + 1) 1).facts
      have gA : ((w1.setCell ⟨w.heap.size + 1, 0, none⟩ (.int .i64 x.line)).setCell ⟨w.heap.size + 1, 1, none⟩ (.int .i64 x.col)).cell? ⟨g, m * 5, none⟩ = some (.int .i64 x.r) := cell_past (cell_past g0 hgb2) hgb2
      have gB := cell_past (p := ⟨w.heap.size + 1, 1, none⟩) (u := .int .i64 (x.col + 1)) gA hgb2
      obtain ⟨a0, a1, a2, a3⟩ := pA.facts
      obtain ⟨o0, o1, o2, o3⟩ := pB.facts
      clear hown hb p0 p1 hlow HS HK HX HL HE b1 b3 hg pA pB pC zA zC hlA hlC hbb
      go_wp2
      exact bodyPost_ret (v := .agg #[.int .i64 (x.line + 1), .int .i64 1]) (by simp [results, Tryz.results34, go_sem, s0, s1]) rfl ⟨by rw [HE2.out.1, HE2.out.2], HLD.out⟩
    · have t10 : (x.r == 10) = false := by simp [h10]
      have HE2 : Hid (endL s = x.line ∧ endC s = x.col + 1) := by
        unfold Hid; rw [HE.out.1, HE.out.2]; unfold nextLine nextCol; simp [h10]
      clear h10
      go_enter Tryz.func34, Tryz.ntmps34
      go_wp2_with fail
      refine (rall_any s _ hs).mono ?_
      rintro e w1 ⟨v, rfl, hown, hb⟩
      rw [HL.out] at hown
      obtain ⟨g, cap, rfl, hg, g0, g3, g4⟩ := HK.out w1 v (by simpa using hown)
      obtain ⟨p0, p1, hlow⟩ := HS.out w1 (by simpa using hb)
      obtain ⟨c0, c1, f0, f1⟩ := p0.facts
      obtain ⟨d0, d1, e0, e1⟩ := p1.facts
      have HLOW := Lib.hid hlow
      have hgb2 : g ≠ w.heap.size + 1 := by omega
      have hgb3 : g ≠ w.heap.size := by omega
      have pA := p1.stored x.line x.col
      have pB := pA.storedCol (x.col + 1)
      have hbb : w.heap.size ≠ w.heap.size + 1 := by omega
      have zA := ((p0.past (p := ⟨w.heap.size + 1, 0, none⟩) hbb (.int .i64 x.line)).past (p := ⟨w.heap.size + 1, 1, none⟩) hbb (.int .i64 x.col)).past (p := ⟨w.heap.size + 1, 1, none⟩) hbb (.int .i64 (x.col + 1))
      have hlA := ((hlow.setCell (p := ⟨w.heap.size + 1, 0, none⟩) (by show w.heap.size ≤ w.heap.size + 1; omega) (.int .i64 x.line)).setCell (p := ⟨w.heap.size + 1, 1, none⟩) (by show w.heap.size ≤ w.heap.size + 1; omega) (.int .i64 x.col)).setCell (p := ⟨w.heap.size + 1, 1, none⟩) (by show w.heap.size ≤ w.heap.size + 1; omega) (.int .i64 (x.col + 1))
      have HLD := Lib.hid ((hlA.setCell (p := ⟨w.heap.size, 0, none⟩) (Nat.le_refl _) (.int .i64 x.line)).setCell (p := ⟨w.heap.size, 1, none⟩) (Nat.le_refl _) (.int .i64 (x.col + 1)))
      obtain ⟨u0, u1, u2, u3⟩ := zA.facts
      obtain ⟨s0, s1, s2, s3⟩ := (zA.stored x.line (x.col + 1)).facts
      have gA : ((w1.setCell ⟨w.heap.size + 1, 0, none⟩ (.int .i64 x.line)).setCell ⟨w.heap.size + 1, 1, none⟩ (.int .i64 x.col)).cell? ⟨g, m * 5, none⟩ = some (.int .i64 x.r) := cell_past (cell_past g0 hgb2) hgb2
      have gB := cell_past (p := ⟨w.heap.size + 1, 1, none⟩) (u := .int .i64 (x.col + 1)) gA hgb2
      obtain ⟨a0, a1, a2, a3⟩ := pA.facts
      obtain ⟨o0, o1, o2, o3⟩ := pB.facts
      clear hown hb p0 p1 hlow HS HK HX HL HE b1 b3 hg pA pB zA hlA hbb
      go_wp2
      exact bodyPost_ret (v := .agg #[.int .i64 x.line, .int .i64 (x.col + 1)]) (by simp [results, Tryz.results34, go_sem, s0, s1]) rfl ⟨by rw [HE2.out.1, HE2.out.2], HLD.out⟩

end Go.Proofs.YthlofmnmacpogaaGreatDoor

namespace Go.Proofs.YthlofmnmacpogaaGreatDoor
open Go.RowKit

set_option maxHeartbeats 400000 in
theorem rsmallB_any (c : Int) (w : World) : Calls Tryz.prog 62 #[.int .i64 c] w fun e w' => e = .returned (.bool (smallB c)) ∧ w = w' := by
  have H : Hid (smallB c = decide (97 ≤ c ∧ c ≤ 122)) := rfl
  rcases (show c < 97 ∨ (97 ≤ c ∧ c ≤ 122) ∨ 122 < c by omega) with h | ⟨h, h'⟩ | h
  all_goals
    go_enter Tryz.func62, Tryz.ntmps62
    go_wp2
    go_ret
    exact ⟨ret_bool (by rw [H.out]; simp; try omega), rfl⟩

set_option maxHeartbeats 400000 in
theorem rgreatB_any (c : Int) (w : World) : Calls Tryz.prog 63 #[.int .i64 c] w fun e w' => e = .returned (.bool (greatB c)) ∧ w = w' := by
  have H : Hid (greatB c = decide (65 ≤ c ∧ c ≤ 90)) := rfl
  rcases (show c < 65 ∨ (65 ≤ c ∧ c ≤ 90) ∨ 90 < c by omega) with h | ⟨h, h'⟩ | h
  all_goals
    go_enter Tryz.func63, Tryz.ntmps63
    go_wp2
    go_ret
    exact ⟨ret_bool (by rw [H.out]; simp; try omega), rfl⟩

set_option maxHeartbeats 400000 in
theorem rdigitB_any (c : Int) (w : World) : Calls Tryz.prog 65 #[.int .i64 c] w fun e w' => e = .returned (.bool (digitB c)) ∧ w = w' := by
  have H : Hid (digitB c = decide (48 ≤ c ∧ c ≤ 57)) := rfl
  rcases (show c < 48 ∨ (48 ≤ c ∧ c ≤ 57) ∨ 57 < c by omega) with h | ⟨h, h'⟩ | h
  all_goals
    go_enter Tryz.func65, Tryz.ntmps65
    go_wp2
    go_ret
    exact ⟨ret_bool (by rw [H.out]; simp; try omega), rfl⟩

/-- the reference's runes in memory -/
def RR (w : World) (v : Value) (L : List Rn) : Prop := ∃ B, w.ownsRow B 79 5 v L.length (rnFlat .i64 L)
theorem RR.keep {w w' : World} {v : Value} {L : List Rn} (h : RR w v L) (hb : Below w.heap.size w w') : RR w' v L := by
  obtain ⟨B, h⟩ := h; exact ⟨B, owns_below h hb⟩

set_option maxHeartbeats 400000 in
theorem rat_any {w : World} {v : Value} {L : List Rn} (h : RR w v L) (k : Int) (h0 : 0 ≤ k) (hk : k ≤ 4294967296) :
    Calls Tryz.prog 66 #[v, .int .i64 k] w fun e w' => e = .returned (.int .i64 (rAt L k.toNat)) ∧ w = w' := by
  obtain ⟨i, rfl⟩ := Int.eq_ofNat_of_zero_le h0
  rw [Int.toNat_natCast]
  obtain ⟨B, h⟩ := h
  by_cases hlt : i < L.length
  · obtain ⟨x, hx⟩ : ∃ x, L[i]? = some x := ⟨_, List.getElem?_eq_getElem hlt⟩
    have HA := Lib.hid (rAt_some hx)
    obtain ⟨g, cap, rfl, hg, hgs⟩ := owns_shape h (by omega)
    have c0 := (World.ownsRow.cellAt h (i * 5) (by omega)).trans (rnFlat_get .i64 _ i 0 x hx (by omega))
    simp only [rnCells, List.getElem?_cons_zero] at c0
    have hz : (i : Int) < (L.length : Int) := by omega
    clear h hx
    go_enter Tryz.func66, Tryz.ntmps66
    go_wp2
    go_ret
    exact ⟨by rw [HA.out]; rfl, rfl⟩
  · have HA := Lib.hid (rAt_none (L := L) (i := i) (by omega))
    obtain ⟨ad, cap, rfl⟩ := owns_len h
    have hz : ¬ (i : Int) < (L.length : Int) := by omega
    clear h
    go_enter Tryz.func66, Tryz.ntmps66
    go_wp2
    go_ret
    exact ⟨by rw [HA.out]; rfl, rfl⟩

theorem innerB_cases (c : Int) : (innerB c = true ∧ smallB c = true) ∨ (innerB c = true ∧ smallB c = false ∧ greatB c = true) ∨ (innerB c = true ∧ smallB c = false ∧ greatB c = false ∧ digitB c = true) ∨
    (smallB c = false ∧ greatB c = false ∧ digitB c = false ∧ innerB c = (c == 95)) := by
  unfold innerB letterB
  cases smallB c <;> cases greatB c <;> cases digitB c <;> simp <;> rfl

set_option maxHeartbeats 2000000 in
theorem rword_any {w : World} {v : Value} {L : List Rn} (h : RR w v L) (i : Nat) (hL : L.length ≤ 70000) (hi : i ≤ L.length) :
    Calls Tryz.prog 64 #[v, .int .i64 i] w fun e w' => e = .returned (.int .i64 (rowE innerB L i : Nat)) ∧ w = w' := by
  have HR := Lib.hid h; clear h
  go_enter Tryz.func64, Tryz.ntmps64
  go_wp2
  go_loop [1] (fun m => ∃ k : Nat, k ≤ L.length ∧ m = .int .i64 k ∧ Hid (rowE innerB L i = rowE innerB L k)) (fun m => L.length - (intOf m).toNat)
  case atStart => exact ⟨i, hi, rfl, rfl⟩
  case round =>
    obtain ⟨k, hk, rfl, HE⟩ := hrel
    have hgo : innerB (rAt L k) = true → k < L.length := by
      intro hq
      by_cases hc : k < L.length
      · exact hc
      · rw [rAt_none (by omega)] at hq; exact absurd hq (by decide)
    have hyes : innerB (rAt L k) = true → rowE innerB L i = rowE innerB L (k + 1) := fun hq => by rw [HE.out, rowE_yes _ (by decide) _ _ hq]
    have hno : innerB (rAt L k) = false → rowE innerB L i = k := fun hq => by rw [HE.out, rowE_no _ _ _ hq]
    obtain ⟨c, hc⟩ : ∃ c, c = rAt L k := ⟨_, rfl⟩
    rw [← hc] at hgo hyes hno
    have HC := Lib.hid hc; clear hc
    rcases innerB_cases c with ⟨h0, h1⟩ | ⟨h0, h1, h2⟩ | ⟨h0, h1, h2, h3⟩ | ⟨h1, h2, h3, h0⟩
    · have hlt := hgo h0
      have HY := Lib.hid (hyes h0)
      clear hgo hyes hno h0
      go_wp2_with (first | (go_at_call 66; refine (rat_any HR.out _ (by omega) (by omega)).mono ?_; rintro e w' ⟨rfl, rfl⟩; rw [Int.toNat_natCast, ← HC.out]) | (go_at_call 62; refine (rsmallB_any _ _).mono ?_; rintro e w' ⟨rfl, rfl⟩))
      go_round
      case rel => exact ⟨k + 1, by omega, by go_num, HY⟩
      case measure => simp [intOf]; omega
    · have hlt := hgo h0
      have HY := Lib.hid (hyes h0)
      clear hgo hyes hno h0
      go_wp2_with (first | (go_at_call 66; refine (rat_any HR.out _ (by omega) (by omega)).mono ?_; rintro e w' ⟨rfl, rfl⟩; rw [Int.toNat_natCast, ← HC.out]) | (go_at_call 62; refine (rsmallB_any _ _).mono ?_; rintro e w' ⟨rfl, rfl⟩) | (go_at_call 63; refine (rgreatB_any _ _).mono ?_; rintro e w' ⟨rfl, rfl⟩))
      go_round
      case rel => exact ⟨k + 1, by omega, by go_num, HY⟩
      case measure => simp [intOf]; omega
    · have hlt := hgo h0
      have HY := Lib.hid (hyes h0)
      clear hgo hyes hno h0
      go_wp2_with (first | (go_at_call 66; refine (rat_any HR.out _ (by omega) (by omega)).mono ?_; rintro e w' ⟨rfl, rfl⟩; rw [Int.toNat_natCast, ← HC.out]) | (go_at_call 62; refine (rsmallB_any _ _).mono ?_; rintro e w' ⟨rfl, rfl⟩) | (go_at_call 63; refine (rgreatB_any _ _).mono ?_; rintro e w' ⟨rfl, rfl⟩) | (go_at_call 65; refine (rdigitB_any _ _).mono ?_; rintro e w' ⟨rfl, rfl⟩))
      go_round
      case rel => exact ⟨k + 1, by omega, by go_num, HY⟩
      case measure => simp [intOf]; omega
    · cases h5 : (c == 95)
      · rw [h5] at h0
        have HN := Lib.hid (hno h0)
        clear hgo hyes hno h0
        go_wp2_with (first | (go_at_call 66; refine (rat_any HR.out _ (by omega) (by omega)).mono ?_; rintro e w' ⟨rfl, rfl⟩; rw [Int.toNat_natCast, ← HC.out]) | (go_at_call 62; refine (rsmallB_any _ _).mono ?_; rintro e w' ⟨rfl, rfl⟩) | (go_at_call 63; refine (rgreatB_any _ _).mono ?_; rintro e w' ⟨rfl, rfl⟩) | (go_at_call 65; refine (rdigitB_any _ _).mono ?_; rintro e w' ⟨rfl, rfl⟩))
        go_ret
        exact ⟨ret_int (by rw [HN.out]), rfl⟩
      · rw [h5] at h0
        have hlt := hgo h0
        have HY := Lib.hid (hyes h0)
        clear hgo hyes hno h0
        go_wp2_with (first | (go_at_call 66; refine (rat_any HR.out _ (by omega) (by omega)).mono ?_; rintro e w' ⟨rfl, rfl⟩; rw [Int.toNat_natCast, ← HC.out]) | (go_at_call 62; refine (rsmallB_any _ _).mono ?_; rintro e w' ⟨rfl, rfl⟩) | (go_at_call 63; refine (rgreatB_any _ _).mono ?_; rintro e w' ⟨rfl, rfl⟩) | (go_at_call 65; refine (rdigitB_any _ _).mono ?_; rintro e w' ⟨rfl, rfl⟩))
        go_round
        case rel => exact ⟨k + 1, by omega, by go_num, HY⟩
        case measure => simp [intOf]; omega

end Go.Proofs.YthlofmnmacpogaaGreatDoor

namespace Go.Proofs.YthlofmnmacpogaaGreatDoor
open Go.RowKit

/-- how many runes the sign has that begins with c, d behind it -/
def signN (c d : Int) : Nat :=
  if (c = 60 ∨ c = 62 ∨ c = 33) ∧ d = 61 then 2
  else if c = 60 ∨ c = 62 ∨ c = 61 ∨ c = 40 ∨ c = 41 ∨ c = 91 ∨ c = 93 ∨ c = 44 ∨ c = 59 then 1 else 0

set_option maxHeartbeats 1000000 in
theorem rsign_60t {w : World} {v : Value} {L : List Rn} (h : RR w v L) (i : Nat) (hi : i ≤ 4294967290) (hc0 : rAt L i = 60) (hd : rAt L (i + 1) = 61) :
    Calls Tryz.prog 67 #[v, .int .i64 i] w fun e w' => e = .returned (.int .i64 2) ∧ w = w' := by
  have HR := Lib.hid h; clear h
  have HC := Lib.hid hc0; clear hc0
  go_enter Tryz.func67, Tryz.ntmps67
  go_wp2_with fail
  refine (rat_any HR.out _ (by omega) (by omega)).mono ?_
  rintro e w' ⟨rfl, rfl⟩
  rw [Int.toNat_natCast, HC.out]
  go_wp2_with fail
  refine (rat_any HR.out _ (by omega) (by omega)).mono ?_
  rintro e w' ⟨rfl, rfl⟩
  rw [show ((i : Int) + 1).toNat = i + 1 by omega]
  go_wp2
  go_ret
  exact ⟨rfl, rfl⟩

set_option maxHeartbeats 1000000 in
theorem rsign_60f {w : World} {v : Value} {L : List Rn} (h : RR w v L) (i : Nat) (hi : i ≤ 4294967290) (hc0 : rAt L i = 60) (hd : (rAt L (i + 1) == 61) = false) :
    Calls Tryz.prog 67 #[v, .int .i64 i] w fun e w' => e = .returned (.int .i64 1) ∧ w = w' := by
  have HR := Lib.hid h; clear h
  have HC := Lib.hid hc0; clear hc0
  go_enter Tryz.func67, Tryz.ntmps67
  go_wp2_with fail
  refine (rat_any HR.out _ (by omega) (by omega)).mono ?_
  rintro e w' ⟨rfl, rfl⟩
  rw [Int.toNat_natCast, HC.out]
  go_wp2_with fail
  refine (rat_any HR.out _ (by omega) (by omega)).mono ?_
  rintro e w' ⟨rfl, rfl⟩
  rw [show ((i : Int) + 1).toNat = i + 1 by omega]
  go_wp2
  go_ret
  exact ⟨rfl, rfl⟩

set_option maxHeartbeats 1000000 in
theorem rsign_62t {w : World} {v : Value} {L : List Rn} (h : RR w v L) (i : Nat) (hi : i ≤ 4294967290) (hc0 : rAt L i = 62) (hd : rAt L (i + 1) = 61) :
    Calls Tryz.prog 67 #[v, .int .i64 i] w fun e w' => e = .returned (.int .i64 2) ∧ w = w' := by
  have HR := Lib.hid h; clear h
  have HC := Lib.hid hc0; clear hc0
  go_enter Tryz.func67, Tryz.ntmps67
  go_wp2_with fail
  refine (rat_any HR.out _ (by omega) (by omega)).mono ?_
  rintro e w' ⟨rfl, rfl⟩
  rw [Int.toNat_natCast, HC.out]
  go_wp2_with fail
  refine (rat_any HR.out _ (by omega) (by omega)).mono ?_
  rintro e w' ⟨rfl, rfl⟩
  rw [show ((i : Int) + 1).toNat = i + 1 by omega]
  go_wp2
  go_ret
  exact ⟨rfl, rfl⟩

set_option maxHeartbeats 1000000 in
theorem rsign_62f {w : World} {v : Value} {L : List Rn} (h : RR w v L) (i : Nat) (hi : i ≤ 4294967290) (hc0 : rAt L i = 62) (hd : (rAt L (i + 1) == 61) = false) :
    Calls Tryz.prog 67 #[v, .int .i64 i] w fun e w' => e = .returned (.int .i64 1) ∧ w = w' := by
  have HR := Lib.hid h; clear h
  have HC := Lib.hid hc0; clear hc0
  go_enter Tryz.func67, Tryz.ntmps67
  go_wp2_with fail
  refine (rat_any HR.out _ (by omega) (by omega)).mono ?_
  rintro e w' ⟨rfl, rfl⟩
  rw [Int.toNat_natCast, HC.out]
  go_wp2_with fail
  refine (rat_any HR.out _ (by omega) (by omega)).mono ?_
  rintro e w' ⟨rfl, rfl⟩
  rw [show ((i : Int) + 1).toNat = i + 1 by omega]
  go_wp2
  go_ret
  exact ⟨rfl, rfl⟩

set_option maxHeartbeats 1000000 in
theorem rsign_33t {w : World} {v : Value} {L : List Rn} (h : RR w v L) (i : Nat) (hi : i ≤ 4294967290) (hc0 : rAt L i = 33) (hd : rAt L (i + 1) = 61) :
    Calls Tryz.prog 67 #[v, .int .i64 i] w fun e w' => e = .returned (.int .i64 2) ∧ w = w' := by
  have HR := Lib.hid h; clear h
  have HC := Lib.hid hc0; clear hc0
  go_enter Tryz.func67, Tryz.ntmps67
  go_wp2_with fail
  refine (rat_any HR.out _ (by omega) (by omega)).mono ?_
  rintro e w' ⟨rfl, rfl⟩
  rw [Int.toNat_natCast, HC.out]
  go_wp2_with fail
  refine (rat_any HR.out _ (by omega) (by omega)).mono ?_
  rintro e w' ⟨rfl, rfl⟩
  rw [show ((i : Int) + 1).toNat = i + 1 by omega]
  go_wp2
  go_ret
  exact ⟨rfl, rfl⟩

set_option maxHeartbeats 1000000 in
theorem rsign_33f {w : World} {v : Value} {L : List Rn} (h : RR w v L) (i : Nat) (hi : i ≤ 4294967290) (hc0 : rAt L i = 33) (hd : (rAt L (i + 1) == 61) = false) :
    Calls Tryz.prog 67 #[v, .int .i64 i] w fun e w' => e = .returned (.int .i64 0) ∧ w = w' := by
  have HR := Lib.hid h; clear h
  have HC := Lib.hid hc0; clear hc0
  go_enter Tryz.func67, Tryz.ntmps67
  go_wp2_with fail
  refine (rat_any HR.out _ (by omega) (by omega)).mono ?_
  rintro e w' ⟨rfl, rfl⟩
  rw [Int.toNat_natCast, HC.out]
  go_wp2_with fail
  refine (rat_any HR.out _ (by omega) (by omega)).mono ?_
  rintro e w' ⟨rfl, rfl⟩
  rw [show ((i : Int) + 1).toNat = i + 1 by omega]
  go_wp2
  go_ret
  exact ⟨rfl, rfl⟩

set_option maxHeartbeats 1000000 in
theorem rsign_61 {w : World} {v : Value} {L : List Rn} (h : RR w v L) (i : Nat) (hi : i ≤ 4294967290) (hc0 : rAt L i = 61) :
    Calls Tryz.prog 67 #[v, .int .i64 i] w fun e w' => e = .returned (.int .i64 1) ∧ w = w' := by
  have HR := Lib.hid h; clear h
  have HC := Lib.hid hc0; clear hc0
  go_enter Tryz.func67, Tryz.ntmps67
  go_wp2_with fail
  refine (rat_any HR.out _ (by omega) (by omega)).mono ?_
  rintro e w' ⟨rfl, rfl⟩
  rw [Int.toNat_natCast, HC.out]
  go_wp2_with fail
  go_ret
  exact ⟨rfl, rfl⟩

set_option maxHeartbeats 1000000 in
theorem rsign_40 {w : World} {v : Value} {L : List Rn} (h : RR w v L) (i : Nat) (hi : i ≤ 4294967290) (hc0 : rAt L i = 40) :
    Calls Tryz.prog 67 #[v, .int .i64 i] w fun e w' => e = .returned (.int .i64 1) ∧ w = w' := by
  have HR := Lib.hid h; clear h
  have HC := Lib.hid hc0; clear hc0
  go_enter Tryz.func67, Tryz.ntmps67
  go_wp2_with fail
  refine (rat_any HR.out _ (by omega) (by omega)).mono ?_
  rintro e w' ⟨rfl, rfl⟩
  rw [Int.toNat_natCast, HC.out]
  go_wp2_with fail
  go_ret
  exact ⟨rfl, rfl⟩

set_option maxHeartbeats 1000000 in
theorem rsign_41 {w : World} {v : Value} {L : List Rn} (h : RR w v L) (i : Nat) (hi : i ≤ 4294967290) (hc0 : rAt L i = 41) :
    Calls Tryz.prog 67 #[v, .int .i64 i] w fun e w' => e = .returned (.int .i64 1) ∧ w = w' := by
  have HR := Lib.hid h; clear h
  have HC := Lib.hid hc0; clear hc0
  go_enter Tryz.func67, Tryz.ntmps67
  go_wp2_with fail
  refine (rat_any HR.out _ (by omega) (by omega)).mono ?_
  rintro e w' ⟨rfl, rfl⟩
  rw [Int.toNat_natCast, HC.out]
  go_wp2_with fail
  go_ret
  exact ⟨rfl, rfl⟩

set_option maxHeartbeats 1000000 in
theorem rsign_91 {w : World} {v : Value} {L : List Rn} (h : RR w v L) (i : Nat) (hi : i ≤ 4294967290) (hc0 : rAt L i = 91) :
    Calls Tryz.prog 67 #[v, .int .i64 i] w fun e w' => e = .returned (.int .i64 1) ∧ w = w' := by
  have HR := Lib.hid h; clear h
  have HC := Lib.hid hc0; clear hc0
  go_enter Tryz.func67, Tryz.ntmps67
  go_wp2_with fail
  refine (rat_any HR.out _ (by omega) (by omega)).mono ?_
  rintro e w' ⟨rfl, rfl⟩
  rw [Int.toNat_natCast, HC.out]
  go_wp2_with fail
  go_ret
  exact ⟨rfl, rfl⟩

set_option maxHeartbeats 1000000 in
theorem rsign_93 {w : World} {v : Value} {L : List Rn} (h : RR w v L) (i : Nat) (hi : i ≤ 4294967290) (hc0 : rAt L i = 93) :
    Calls Tryz.prog 67 #[v, .int .i64 i] w fun e w' => e = .returned (.int .i64 1) ∧ w = w' := by
  have HR := Lib.hid h; clear h
  have HC := Lib.hid hc0; clear hc0
  go_enter Tryz.func67, Tryz.ntmps67
  go_wp2_with fail
  refine (rat_any HR.out _ (by omega) (by omega)).mono ?_
  rintro e w' ⟨rfl, rfl⟩
  rw [Int.toNat_natCast, HC.out]
  go_wp2_with fail
  go_ret
  exact ⟨rfl, rfl⟩

set_option maxHeartbeats 1000000 in
theorem rsign_44 {w : World} {v : Value} {L : List Rn} (h : RR w v L) (i : Nat) (hi : i ≤ 4294967290) (hc0 : rAt L i = 44) :
    Calls Tryz.prog 67 #[v, .int .i64 i] w fun e w' => e = .returned (.int .i64 1) ∧ w = w' := by
  have HR := Lib.hid h; clear h
  have HC := Lib.hid hc0; clear hc0
  go_enter Tryz.func67, Tryz.ntmps67
  go_wp2_with fail
  refine (rat_any HR.out _ (by omega) (by omega)).mono ?_
  rintro e w' ⟨rfl, rfl⟩
  rw [Int.toNat_natCast, HC.out]
  go_wp2_with fail
  go_ret
  exact ⟨rfl, rfl⟩

set_option maxHeartbeats 1000000 in
theorem rsign_59 {w : World} {v : Value} {L : List Rn} (h : RR w v L) (i : Nat) (hi : i ≤ 4294967290) (hc0 : rAt L i = 59) :
    Calls Tryz.prog 67 #[v, .int .i64 i] w fun e w' => e = .returned (.int .i64 1) ∧ w = w' := by
  have HR := Lib.hid h; clear h
  have HC := Lib.hid hc0; clear hc0
  go_enter Tryz.func67, Tryz.ntmps67
  go_wp2_with fail
  refine (rat_any HR.out _ (by omega) (by omega)).mono ?_
  rintro e w' ⟨rfl, rfl⟩
  rw [Int.toNat_natCast, HC.out]
  go_wp2_with fail
  go_ret
  exact ⟨rfl, rfl⟩

set_option maxHeartbeats 1000000 in
theorem rsign_no {w : World} {v : Value} {L : List Rn} (h : RR w v L) (i : Nat) (hi : i ≤ 4294967290) (hn : ∀ k ∈ [60, 62, 33, 61, 40, 41, 91, 93, 44, 59], rAt L i ≠ k) :
    Calls Tryz.prog 67 #[v, .int .i64 i] w fun e w' => e = .returned (.int .i64 0) ∧ w = w' := by
  have HR := Lib.hid h; clear h
  obtain ⟨c, hc⟩ : ∃ c, c = rAt L i := ⟨_, rfl⟩
  rw [← hc] at hn
  have HC := Lib.hid hc; clear hc
  have n60 : (c == 60) = false := beq_eq_false_iff_ne.2 (hn 60 (by simp))
  have n62 : (c == 62) = false := beq_eq_false_iff_ne.2 (hn 62 (by simp))
  have n33 : (c == 33) = false := beq_eq_false_iff_ne.2 (hn 33 (by simp))
  have n61 : (c == 61) = false := beq_eq_false_iff_ne.2 (hn 61 (by simp))
  have n40 : (c == 40) = false := beq_eq_false_iff_ne.2 (hn 40 (by simp))
  have n41 : (c == 41) = false := beq_eq_false_iff_ne.2 (hn 41 (by simp))
  have n91 : (c == 91) = false := beq_eq_false_iff_ne.2 (hn 91 (by simp))
  have n93 : (c == 93) = false := beq_eq_false_iff_ne.2 (hn 93 (by simp))
  have n44 : (c == 44) = false := beq_eq_false_iff_ne.2 (hn 44 (by simp))
  have n59 : (c == 59) = false := beq_eq_false_iff_ne.2 (hn 59 (by simp))
  clear hn
  go_enter Tryz.func67, Tryz.ntmps67
  go_wp2_with fail
  refine (rat_any HR.out _ (by omega) (by omega)).mono ?_
  rintro e w' ⟨rfl, rfl⟩
  rw [Int.toNat_natCast, ← HC.out]
  go_wp2_with fail
  go_ret
  exact ⟨rfl, rfl⟩

theorem rsign_any {w : World} {v : Value} {L : List Rn} (h : RR w v L) (i : Nat) (hi : i ≤ 4294967290) :
    Calls Tryz.prog 67 #[v, .int .i64 i] w fun e w' => e = .returned (.int .i64 (signN (rAt L i) (rAt L (i + 1)) : Nat)) ∧ w = w' := by
  by_cases h60 : rAt L i = 60
  · by_cases hd : rAt L (i + 1) = 61
    · have e : signN (rAt L i) (rAt L (i + 1)) = 2 := by unfold signN; simp [h60, hd]
      rw [e]; exact rsign_60t h i hi h60 hd
    · have e : signN (rAt L i) (rAt L (i + 1)) = 1 := by unfold signN; simp [h60, hd]
      rw [e]; exact rsign_60f h i hi h60 (beq_eq_false_iff_ne.2 hd)
  by_cases h62 : rAt L i = 62
  · by_cases hd : rAt L (i + 1) = 61
    · have e : signN (rAt L i) (rAt L (i + 1)) = 2 := by unfold signN; simp [h62, hd]
      rw [e]; exact rsign_62t h i hi h62 hd
    · have e : signN (rAt L i) (rAt L (i + 1)) = 1 := by unfold signN; simp [h62, hd]
      rw [e]; exact rsign_62f h i hi h62 (beq_eq_false_iff_ne.2 hd)
  by_cases h33 : rAt L i = 33
  · by_cases hd : rAt L (i + 1) = 61
    · have e : signN (rAt L i) (rAt L (i + 1)) = 2 := by unfold signN; simp [h33, hd]
      rw [e]; exact rsign_33t h i hi h33 hd
    · have e : signN (rAt L i) (rAt L (i + 1)) = 0 := by unfold signN; simp [h33, hd]
      rw [e]; exact rsign_33f h i hi h33 (beq_eq_false_iff_ne.2 hd)
  by_cases h61 : rAt L i = 61
  · have e : signN (rAt L i) (rAt L (i + 1)) = 1 := by unfold signN; simp [h61]
    rw [e]; exact rsign_61 h i hi h61
  by_cases h40 : rAt L i = 40
  · have e : signN (rAt L i) (rAt L (i + 1)) = 1 := by unfold signN; simp [h40]
    rw [e]; exact rsign_40 h i hi h40
  by_cases h41 : rAt L i = 41
  · have e : signN (rAt L i) (rAt L (i + 1)) = 1 := by unfold signN; simp [h41]
    rw [e]; exact rsign_41 h i hi h41
  by_cases h91 : rAt L i = 91
  · have e : signN (rAt L i) (rAt L (i + 1)) = 1 := by unfold signN; simp [h91]
    rw [e]; exact rsign_91 h i hi h91
  by_cases h93 : rAt L i = 93
  · have e : signN (rAt L i) (rAt L (i + 1)) = 1 := by unfold signN; simp [h93]
    rw [e]; exact rsign_93 h i hi h93
  by_cases h44 : rAt L i = 44
  · have e : signN (rAt L i) (rAt L (i + 1)) = 1 := by unfold signN; simp [h44]
    rw [e]; exact rsign_44 h i hi h44
  by_cases h59 : rAt L i = 59
  · have e : signN (rAt L i) (rAt L (i + 1)) = 1 := by unfold signN; simp [h59]
    rw [e]; exact rsign_59 h i hi h59
  have e : signN (rAt L i) (rAt L (i + 1)) = 0 := by unfold signN; simp [h60, h62, h33, h61, h40, h41, h91, h93, h44, h59]
  rw [e]
  exact rsign_no h i hi (by intro k hk; simp at hk; rcases hk with rfl | rfl | rfl | rfl | rfl | rfl | rfl | rfl | rfl | rfl <;> assumption)

/-- is a great letter in a text? -/
def hasGreatB (s : ByteArray) : Bool := s.data.toList.any fun b => greatB (b.toNat : Int)

set_option maxHeartbeats 1000000 in
theorem rhasGreat_any (s : ByteArray) (w : World) (hs : s.size ≤ 4294967296) :
    Calls Tryz.prog 69 #[.string s] w fun e w' => e = .returned (.bool (hasGreatB s)) ∧ w = w' := by
  go_enter Tryz.func69, Tryz.ntmps69
  go_wp2
  go_loop [3] (fun i => ∃ k : Nat, k ≤ s.size ∧ i = .int .i64 k ∧ Hid ((s.data.toList.take k).any (fun b => greatB (b.toNat : Int)) = false)) (fun i => s.size - (intOf i).toNat)
  case atStart => exact ⟨0, Nat.zero_le _, rfl, rfl⟩
  case round =>
    obtain ⟨k, hk, rfl, HE⟩ := hrel
    by_cases hlt : k < s.size
    · obtain ⟨c, hc⟩ : ∃ c, (s[k]'hlt).toNat = c := ⟨_, rfl⟩
      have hc255 : c < 256 := by rw [← hc]; exact (s[k]'hlt).toNat_lt
      have hsn : (s.data.toList.take (k + 1)).any (fun b => greatB (b.toNat : Int)) = greatB (c : Int) := by
        have e1 : s.data.toList.take (k + 1) = s.data.toList.take k ++ [s[k]'hlt] := by rw [List.take_succ_eq_append_getElem (by simpa using hlt)]; rfl
        rw [e1, List.any_append, HE.out]; simp [hc]
      have hyes : greatB (c : Int) = true → hasGreatB s = true := by
        intro hg
        rw [hg] at hsn
        unfold hasGreatB
        obtain ⟨x, hx, hp⟩ := List.any_eq_true.1 hsn
        exact List.any_eq_true.2 ⟨x, List.mem_of_mem_take hx, hp⟩
      cases hg : greatB (c : Int)
      · rw [hg] at hsn
        have HS := Lib.hid hsn
        have HG := Lib.hid hg
        clear hsn hyes hg
        go_wp2_with (go_at_call 63; refine (rgreatB_any _ _).mono ?_; rintro e w' ⟨rfl, rfl⟩; rw [HG.out])
        go_round
        case rel => exact ⟨k + 1, by omega, by go_num, HS⟩
        case measure => simp [intOf]; omega
      · have HY := Lib.hid (hyes hg)
        have HG := Lib.hid hg
        clear hsn hyes hg
        go_wp2_with (go_at_call 63; refine (rgreatB_any _ _).mono ?_; rintro e w' ⟨rfl, rfl⟩; rw [HG.out])
        go_ret
        exact ⟨ret_bool HY.out.symm, rfl⟩
    · have HF : Hid (hasGreatB s = false) := by
        have := HE.out
        rw [List.take_of_length_le (by simp; omega)] at this
        exact this
      go_wp2
      go_ret
      exact ⟨ret_bool HF.out.symm, rfl⟩

end Go.Proofs.YthlofmnmacpogaaGreatDoor

namespace Go.Proofs.YthlofmnmacpogaaGreatDoor
open Go.RowKit

def stepV (n : Nat) (b : UInt8) : Nat := if b.toNat = 45 then n else n * 10 + (b.toNat - 48)

def numV (l : List UInt8) : Nat := l.foldl stepV 0

theorem numV_snoc (l : List UInt8) (b : UInt8) : numV (l ++ [b]) = stepV (numV l) b := by simp [numV]

theorem stepV_ge (n : Nat) (b : UInt8) : n ≤ stepV n b := by unfold stepV; split <;> omega

theorem foldV_ge (l : List UInt8) (n : Nat) : n ≤ l.foldl stepV n := by
  induction l generalizing n with
  | nil => exact Nat.le_refl _
  | cons b t ih => exact Nat.le_trans (stepV_ge n b) (ih _)

theorem numV_take (l : List UInt8) (k : Nat) : numV (l.take k) ≤ numV l := by
  have h : numV l = (l.drop k).foldl stepV (numV (l.take k)) := by
    unfold numV
    rw [← List.foldl_append, List.take_append_drop]
  rw [h]; exact foldV_ge _ _

theorem numV_next (s : ByteArray) (k : Nat) (h : k < s.size) : numV (s.data.toList.take (k + 1)) = stepV (numV (s.data.toList.take k)) (s[k]'h) := by
  have e1 : s.data.toList.take (k + 1) = s.data.toList.take k ++ [s[k]'h] := by rw [List.take_succ_eq_append_getElem (by simpa using h)]; rfl
  rw [e1, numV_snoc]

/-- bytes that are digits, or - -/
def NumT (s : ByteArray) : Prop := ∀ (k : Nat) (h : k < s.size), (s[k]'h).toNat = 45 ∨ (48 ≤ (s[k]'h).toNat ∧ (s[k]'h).toNat ≤ 57)

/-- what value answers: the number, and whether it is within 64 bits -/
def valN (s : ByteArray) (below : Bool) : Int × Bool :=
  if below then (if numV s.data.toList ≤ 9223372036854775808 then (-(numV s.data.toList : Int), true) else (0, false))
  else (if numV s.data.toList ≤ 9223372036854775807 then ((numV s.data.toList : Int), true) else (0, false))

end Go.Proofs.YthlofmnmacpogaaGreatDoor
