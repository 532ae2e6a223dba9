/- Contracts of Runes and At of package text. -/
import Derived.Test.YtignjhbajjephaaGreatDoorCr26

namespace Go.Proofs.YtignjhbajjephaaGreatDoor
open Go.RowKit

theorem allR_len (s : ByteArray) : (allR s).length = (allRaw s).length := by rw [← all_fix, List.length_map]

set_option maxHeartbeats 400000 in
theorem textRunes_ok (s : ByteArray) (w : World) (hs : s.size ≤ 4294967296) (hl : (allR s).length ≤ 16384) :
    Calls Tryz.prog 12 #[.string s] w fun e w' => ∃ v, e = .returned (.tuple #[v, .int .i64 0]) ∧ w'.ownsRow w.heap.size 73 5 v (allR s).length (rnFlat .i32 (allR s)) ∧ Below w.heap.size w w' := by
  have h1 : (allRaw s).take 16385 = allRaw s := List.take_of_length_le (by rw [← allR_len]; omega)
  have H : Hid (((allRaw s).take 16385).length = (allR s).length ∧ ((allRaw s).take 16385).map Rn.fix = allR s) := by
    unfold Hid; rw [h1, allR_len, all_fix]; exact ⟨rfl, rfl⟩
  clear h1
  go_enter Tryz.func12, Tryz.ntmps12
  go_wp2_with fail
  refine (runes_any s _ hs).mono ?_
  rintro e w1 ⟨v, rfl, hown, hb⟩
  rw [H.out.1, H.out.2] at hown
  obtain ⟨ad, cap, rfl⟩ := owns_len hown
  have HO := Lib.hid hown; clear hown
  go_wp2
  go_ret2
  exact ⟨_, rfl, HO.out, hb⟩

set_option maxHeartbeats 400000 in
theorem textRunes_long (s : ByteArray) (w : World) (hs : s.size ≤ 4294967296) (hl : 16384 < (allR s).length) :
    Calls Tryz.prog 12 #[.string s] w fun e w' => e = .returned (.tuple #[.slice none 0 0, .int .i64 3]) ∧ Below w.heap.size w w' := by
  have H : Hid (((allRaw s).take 16385).length = 16385) := by
    unfold Hid; rw [List.length_take, ← allR_len]; omega
  clear hl
  go_enter Tryz.func12, Tryz.ntmps12
  go_wp2_with fail
  refine (runes_any s _ hs).mono ?_
  rintro e w1 ⟨v, rfl, hown, hb⟩
  rw [H.out] at hown
  obtain ⟨ad, cap, rfl⟩ := owns_len hown
  clear hown
  go_wp2
  go_ret2
  exact ⟨rfl, hb⟩

/-- the place behind the last rune -/
def endAt (s : ByteArray) : Nat → Nat → Int → Int → Int × Int
  | 0, _, line, col => (line, col)
  | k + 1, p, line, col => if p < s.size then endAt s k (p + decN s p) (nextLine (decR s p) line) (nextCol (decR s p) col) else (line, col)
theorem endAt_more (s : ByteArray) (k p : Nat) (line col : Int) (h : s.size ≤ p + k) : endAt s (k + 1) p line col = endAt s k p line col := by
  induction k generalizing p line col with
  | zero => simp only [endAt]; rw [if_neg (by omega)]
  | succ k ih =>
    by_cases hp : p < s.size
    · have := decN_pos s p
      rw [endAt]
      conv => rhs; rw [endAt]
      rw [if_pos hp, if_pos hp, ih _ _ _ (by omega)]
    · rw [endAt]; conv => rhs; rw [endAt]
      rw [if_neg hp, if_neg hp]
theorem endAt_eq (s : ByteArray) (k j p : Nat) (line col : Int) (h : s.size ≤ p + k) (h' : s.size ≤ p + j) : endAt s k p line col = endAt s j p line col := by
  have key : ∀ d m, s.size ≤ p + m → endAt s (m + d) p line col = endAt s m p line col := by
    intro d
    induction d with
    | zero => intro m _; rfl
    | succ d ih => intro m hm; rw [← Nat.add_assoc, endAt_more s (m + d) p line col (by omega), ih m hm]
  rcases Nat.le_total k j with hkj | hkj
  · have := key (j - k) k h; rw [show k + (j - k) = j by omega] at this; exact this.symm
  · have := key (k - j) j h'; rw [show j + (k - j) = k by omega] at this; exact this
def endP (s : ByteArray) (p : Nat) (line col : Int) : Int × Int := endAt s (s.size - p) p line col
theorem endP_next (s : ByteArray) (p : Nat) (line col : Int) (h : p < s.size) : endP s p line col = endP s (p + decN s p) (nextLine (decR s p) line) (nextCol (decR s p) col) := by
  unfold endP
  obtain ⟨k, hk⟩ : ∃ k, s.size - p = k + 1 := ⟨s.size - p - 1, by omega⟩
  rw [hk, endAt, if_pos h]
  have := decN_pos s p
  exact endAt_eq s _ _ _ _ _ (by omega) (by omega)
theorem endP_end (s : ByteArray) (p : Nat) (line col : Int) (h : ¬ p < s.size) : endP s p line col = (line, col) := by
  unfold endP; rw [show s.size - p = 0 by omega]; rfl
def endL (s : ByteArray) : Int := (endP s 0 1 1).1
def endC (s : ByteArray) : Int := (endP s 0 1 1).2

theorem nextRaw (s : ByteArray) (p : Nat) (line col : Int) : nextLine (rawR s p) line = nextLine (decR s p) line ∧ nextCol (rawR s p) col = nextCol (decR s p) col := by
  constructor
  · unfold nextLine; simp only [raw_ten]
  · unfold nextCol; simp only [raw_ten]

theorem next_bd (r line col : Int) (p d : Nat) (hd : 1 ≤ d) (a : 0 ≤ line ∧ line ≤ p + 1 ∧ 0 ≤ col ∧ col ≤ p + 1) : 0 ≤ nextLine r line ∧ nextLine r line ≤ (p + d : Nat) + 1 ∧ 0 ≤ nextCol r col ∧ nextCol r col ≤ (p + d : Nat) + 1 := by
  unfold nextLine nextCol
  refine ⟨?_, ?_, ?_, ?_⟩ <;> split <;> omega

set_option maxRecDepth 100000 in
set_option maxHeartbeats 1000000 in
theorem at_any (s : ByteArray) (w : World) (hs : s.size ≤ 4294967296) :
    Calls Tryz.prog 14 #[.string s, .int .i64 s.size] w fun e w' => e = .returned (.agg #[.int .i64 (endL s), .int .i64 (endC s)]) ∧ Below w.heap.size w w' := by
  have H0 : Hid ((((w.alloc (.cells #[.int .i64 0, .int .i64 0] 26)).alloc (.cells #[.int .i64 1, .int .i64 1] 26)).iter s 0).heap[w.heap.size + 2]? = some (.stringIter s 0) ∧
      PosAt (((w.alloc (.cells #[.int .i64 0, .int .i64 0] 26)).alloc (.cells #[.int .i64 1, .int .i64 1] 26)).iter s 0) w.heap.size 26 0 0 ∧
      PosAt (((w.alloc (.cells #[.int .i64 0, .int .i64 0] 26)).alloc (.cells #[.int .i64 1, .int .i64 1] 26)).iter s 0) (w.heap.size + 1) 26 1 1 ∧
      Below w.heap.size w (((w.alloc (.cells #[.int .i64 0, .int .i64 0] 26)).alloc (.cells #[.int .i64 1, .int .i64 1] 26)).iter s 0)) := by
    refine ⟨?_, ?_, ?_, ?_⟩
    · have := World.iter_heap ((w.alloc (.cells #[.int .i64 0, .int .i64 0] 26)).alloc (.cells #[.int .i64 1, .int .i64 1] 26)) s 0
      simpa using this
    · show (World.iter _ s 0).heap[w.heap.size]? = _
      rw [(World.iter_extends ((w.alloc (.cells #[.int .i64 0, .int .i64 0] 26)).alloc (.cells #[.int .i64 1, .int .i64 1] 26)) s 0).block _ (by simp; omega), Below.heap_alloc _ _ _ (by simp)]
      exact heap_alloc_new w _
    · show (World.iter _ s 0).heap[w.heap.size + 1]? = _
      rw [(World.iter_extends ((w.alloc (.cells #[.int .i64 0, .int .i64 0] 26)).alloc (.cells #[.int .i64 1, .int .i64 1] 26)) s 0).block _ (by simp)]
      have := heap_alloc_new (w.alloc (.cells #[.int .i64 0, .int .i64 0] 26)) (.cells #[.int .i64 1, .int .i64 1] 26)
      simpa using this
    · exact (((Below.refl _ w).alloc (Nat.le_refl _) _).alloc (by simp) _).alloc (by simp; omega) _
  go_enter Tryz.func14, Tryz.ntmps14
  go_wp2
  go_loopw [6, 7] (fun _ _ wr => ∃ (p : Nat) (line col : Int), p ≤ s.size ∧ (0 ≤ line ∧ line ≤ p + 1 ∧ 0 ≤ col ∧ col ≤ p + 1) ∧ wr.heap[w.heap.size + 2]? = some (.stringIter s p) ∧ PosAt wr w.heap.size 26 0 0 ∧
      PosAt wr (w.heap.size + 1) 26 line col ∧ Below w.heap.size w wr ∧ Hid (endP s 0 1 1 = endP s p line col)) (fun _ _ wr => s.size - wr.iterPos (w.heap.size + 2))
  case atStart => exact ⟨0, 1, 1, Nat.zero_le _, by omega, H0.out.1, H0.out.2.1, H0.out.2.2.1, H0.out.2.2.2, rfl⟩
  case round =>
    obtain ⟨p, line, col, hp, ⟨hl0, hl1, hl2, hl3⟩, hit, hres, hpos, hb, HE⟩ := hrel
    clear H0
    have hpo : (wr.iterPos (w.heap.size + 2)) = p := by simp [World.iterPos, hit]
    have HPO := Lib.hid hpo; clear hpo
    by_cases hlt : p < s.size
    · have hnx := fun ty => Lib.run_next_any_at (P := Tryz.prog) wr (w.heap.size + 2) s p ty hit hlt
      have hit1 := Lib.iterAt_heap wr (w.heap.size + 2) s p (p + (Utf8.decode s p).2) hit
      have hres1 := hres.iterAt (w.heap.size + 2) s (p + (Utf8.decode s p).2) (by omega)
      have hpos1 := hpos.iterAt (w.heap.size + 2) s (p + (Utf8.decode s p).2) (by omega)
      have hb1 := Lib.below_iterAt hb (k := w.heap.size + 2) (by omega) s (p + (Utf8.decode s p).2)
      have hdn := decN_pos s p
      have hdl := decN_le s p hlt
      have hnr := nextRaw s p line col
      have hbd := next_bd (rawR s p) line col p (decN s p) hdn ⟨hl0, hl1, hl2, hl3⟩
      have HE' : Hid (endP s 0 1 1 = endP s (p + decN s p) (nextLine (rawR s p) line) (nextCol (rawR s p) col)) := by
        unfold Hid; rw [HE.out, endP_next s p line col hlt, hnr.1, hnr.2]
      have HBD := Lib.hid hbd
      obtain ⟨c0, c1, f0, f1⟩ := hpos1.facts
      have hltz : (p : Int) < (s.size : Int) := by omega
      have hszw : w.heap.size + 2 < (wr.iterAt (w.heap.size + 2) s (p + (Utf8.decode s p).2)).heap.size := (Array.getElem?_eq_some_iff.1 hit1).1
      have HX := Lib.hid (And.intro hit1 (And.intro hres1 (And.intro hpos1 (And.intro hb1 hszw))))
      clear hit hres hpos hb hit1 hres1 hpos1 hb1 hszw hnr hbd HE
      go_wp2_with fail
      refine (next_any line col _ _ hl0 (by omega) hl2 (by omega)).mono ?_
      rintro e w4 ⟨rfl, hb4⟩
      have hpos4 := HX.out.2.2.1.below hb4 (by have := HX.out.2.2.2.2; omega)
      have hres4 := HX.out.2.1.below hb4 (by have := HX.out.2.2.2.2; omega)
      have hit4 := (hb4.block _ HX.out.2.2.2.2).trans HX.out.1
      have hlow4 := HX.out.2.2.2.1.trans (hb4.mono (by have := HX.out.2.2.2.2; omega))
      obtain ⟨a0, a1, b0, b1⟩ := hpos4.facts
      have hit5 : ((w4.setCell ⟨w.heap.size + 1, 0, none⟩ (.int .i64 (nextLine (rawR s p) line))).setCell ⟨w.heap.size + 1, 1, none⟩ (.int .i64 (nextCol (rawR s p) col))).heap[w.heap.size + 2]? = some (.stringIter s (p + decN s p)) := by
        rw [Below.heap_setCell _ _ _ _ (by show w.heap.size + 2 ≠ w.heap.size + 1; omega), Below.heap_setCell _ _ _ _ (by show w.heap.size + 2 ≠ w.heap.size + 1; omega)]; exact hit4
      have hres5 : PosAt ((w4.setCell ⟨w.heap.size + 1, 0, none⟩ (.int .i64 (nextLine (rawR s p) line))).setCell ⟨w.heap.size + 1, 1, none⟩ (.int .i64 (nextCol (rawR s p) col))) w.heap.size 26 0 0 := by
        unfold PosAt
        rw [Below.heap_setCell _ _ _ _ (by show w.heap.size ≠ w.heap.size + 1; omega), Below.heap_setCell _ _ _ _ (by show w.heap.size ≠ w.heap.size + 1; omega)]; exact hres4
      have HY := Lib.hid (And.intro hit5 (And.intro hres5 (And.intro (hpos4.stored (nextLine (rawR s p) line) (nextCol (rawR s p) col)) ((hlow4.setCell (p := ⟨w.heap.size + 1, 0, none⟩) (by show w.heap.size ≤ w.heap.size + 1; omega) (.int .i64 (nextLine (rawR s p) line))).setCell (p := ⟨w.heap.size + 1, 1, none⟩) (by show w.heap.size ≤ w.heap.size + 1; omega) (.int .i64 (nextCol (rawR s p) col))))))
      clear hpos4 hres4 hit4 hlow4 hit5 hres5 hb4
      go_wp2
      go_roundw
      case rel => exact ⟨p + decN s p, _, _, hdl, HBD.out, HY.out.1, HY.out.2.1, HY.out.2.2.1, HY.out.2.2.2, HE'⟩
      case measure => exact iter_less HY.out.1 HPO.out (by omega) hdl
    · have hnx := fun ty => Lib.run_next_end_at (P := Tryz.prog) wr (w.heap.size + 2) s p ty hit hlt
      obtain ⟨c0, c1, f0, f1⟩ := hpos.facts
      obtain ⟨d0, d1, e0, e1⟩ := hres.facts
      have HF : Hid (endL s = line ∧ endC s = col) := by
        have h2 := endP_end s p line col hlt
        unfold Hid endL endC; rw [HE.out, h2]; exact ⟨rfl, rfl⟩
      have h5 := (hres.stored line col).facts
      obtain ⟨q0, q1, q2, q3⟩ := h5
      have HB := Lib.hid ((hb.setCell (p := ⟨w.heap.size, 0, none⟩) (Nat.le_refl _) (.int .i64 line)).setCell (p := ⟨w.heap.size, 1, none⟩) (Nat.le_refl _) (.int .i64 col))
      clear hit hres hpos hb
      go_wp2
      exact bodyPost_ret (v := .agg #[.int .i64 line, .int .i64 col]) (by simp [results, Tryz.results14, go_sem, q0, q1]) rfl ⟨by rw [HF.out.1, HF.out.2], HB.out⟩

end Go.Proofs.YtignjhbajjephaaGreatDoor
