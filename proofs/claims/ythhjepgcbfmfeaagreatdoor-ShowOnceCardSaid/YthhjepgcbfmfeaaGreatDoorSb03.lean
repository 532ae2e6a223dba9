/- Contracts of Runes and At of package text. Plain: runes at places, kinds of runes, tokens as cells; no program in sight. Contracts of the token reader's small methods: rune, fault, row. -/
import Derived.Test.YthhjepgcbfmfeaaGreatDoorSb02
import Derived.Test.YthhjepgcbfmfeaaGreatDoorSb01
import Derived.Deep.RegionHeld3
import Derived.Deep.AppendLies

namespace Go.Proofs.YthhjepgcbfmfeaaGreatDoor
open Go.RowKit

theorem allR_len (s : ByteArray) : (allR s).length = (allRaw s).length := by rw [← all_fix, List.length_map]

set_option maxHeartbeats 400000 in
theorem textRunes_ok (s : ByteArray) (w : World) (hs : s.size ≤ 4294967296) (hl : (allR s).length ≤ 16384) :
    Calls Tryz.prog 23 #[.string s] w fun e w' => ∃ v, e = .returned (.tuple #[v, .int .i64 0]) ∧ w'.ownsRow w.heap.size 89 5 v (allR s).length (rnFlat .i32 (allR s)) ∧ Below w.heap.size w w' := by
  have h1 : (allRaw s).take 16385 = allRaw s := List.take_of_length_le (by rw [← allR_len]; omega)
  have H : Hid (((allRaw s).take 16385).length = (allR s).length ∧ ((allRaw s).take 16385).map Rn.fix = allR s) := by
    unfold Hid; rw [h1, allR_len, all_fix]; exact ⟨rfl, rfl⟩
  clear h1
  go_enter Tryz.func23, Tryz.ntmps23
  go_wp2_with fail
  refine (runes_any s _ hs).mono ?_
  rintro e w1 ⟨v, rfl, hown, hb⟩
  rw [H.out.1, H.out.2] at hown
  obtain ⟨ad, cap, rfl⟩ := owns_len hown
  have HO := Lib.hid hown; clear hown
  go_wp2
  go_ret2
  exact ⟨_, rfl, HO.out, hb⟩

set_option maxHeartbeats 400000 in
theorem textRunes_long (s : ByteArray) (w : World) (hs : s.size ≤ 4294967296) (hl : 16384 < (allR s).length) :
    Calls Tryz.prog 23 #[.string s] w fun e w' => e = .returned (.tuple #[.slice none 0 0, .int .i64 3]) ∧ Below w.heap.size w w' := by
  have H : Hid (((allRaw s).take 16385).length = 16385) := by
    unfold Hid; rw [List.length_take, ← allR_len]; omega
  clear hl
  go_enter Tryz.func23, Tryz.ntmps23
  go_wp2_with fail
  refine (runes_any s _ hs).mono ?_
  rintro e w1 ⟨v, rfl, hown, hb⟩
  rw [H.out] at hown
  obtain ⟨ad, cap, rfl⟩ := owns_len hown
  clear hown
  go_wp2
  go_ret2
  exact ⟨rfl, hb⟩

/-- the place behind the last rune -/
def endAt (s : ByteArray) : Nat → Nat → Int → Int → Int × Int
  | 0, _, line, col => (line, col)
  | k + 1, p, line, col => if p < s.size then endAt s k (p + decN s p) (nextLine (decR s p) line) (nextCol (decR s p) col) else (line, col)
theorem endAt_more (s : ByteArray) (k p : Nat) (line col : Int) (h : s.size ≤ p + k) : endAt s (k + 1) p line col = endAt s k p line col := by
  induction k generalizing p line col with
  | zero => simp only [endAt]; rw [if_neg (by omega)]
  | succ k ih =>
    by_cases hp : p < s.size
    · have := decN_pos s p
      rw [endAt]
      conv => rhs; rw [endAt]
      rw [if_pos hp, if_pos hp, ih _ _ _ (by omega)]
    · rw [endAt]; conv => rhs; rw [endAt]
      rw [if_neg hp, if_neg hp]
theorem endAt_eq (s : ByteArray) (k j p : Nat) (line col : Int) (h : s.size ≤ p + k) (h' : s.size ≤ p + j) : endAt s k p line col = endAt s j p line col := by
  have key : ∀ d m, s.size ≤ p + m → endAt s (m + d) p line col = endAt s m p line col := by
    intro d
    induction d with
    | zero => intro m _; rfl
    | succ d ih => intro m hm; rw [← Nat.add_assoc, endAt_more s (m + d) p line col (by omega), ih m hm]
  rcases Nat.le_total k j with hkj | hkj
  · have := key (j - k) k h; rw [show k + (j - k) = j by omega] at this; exact this.symm
  · have := key (k - j) j h'; rw [show j + (k - j) = k by omega] at this; exact this
def endP (s : ByteArray) (p : Nat) (line col : Int) : Int × Int := endAt s (s.size - p) p line col
theorem endP_next (s : ByteArray) (p : Nat) (line col : Int) (h : p < s.size) : endP s p line col = endP s (p + decN s p) (nextLine (decR s p) line) (nextCol (decR s p) col) := by
  unfold endP
  obtain ⟨k, hk⟩ : ∃ k, s.size - p = k + 1 := ⟨s.size - p - 1, by omega⟩
  rw [hk, endAt, if_pos h]
  have := decN_pos s p
  exact endAt_eq s _ _ _ _ _ (by omega) (by omega)
theorem endP_end (s : ByteArray) (p : Nat) (line col : Int) (h : ¬ p < s.size) : endP s p line col = (line, col) := by
  unfold endP; rw [show s.size - p = 0 by omega]; rfl
def endL (s : ByteArray) : Int := (endP s 0 1 1).1
def endC (s : ByteArray) : Int := (endP s 0 1 1).2

theorem nextRaw (s : ByteArray) (p : Nat) (line col : Int) : nextLine (rawR s p) line = nextLine (decR s p) line ∧ nextCol (rawR s p) col = nextCol (decR s p) col := by
  constructor
  · unfold nextLine; simp only [raw_ten]
  · unfold nextCol; simp only [raw_ten]

theorem next_bd (r line col : Int) (p d : Nat) (hd : 1 ≤ d) (a : 0 ≤ line ∧ line ≤ p + 1 ∧ 0 ≤ col ∧ col ≤ p + 1) : 0 ≤ nextLine r line ∧ nextLine r line ≤ (p + d : Nat) + 1 ∧ 0 ≤ nextCol r col ∧ nextCol r col ≤ (p + d : Nat) + 1 := by
  unfold nextLine nextCol
  refine ⟨?_, ?_, ?_, ?_⟩ <;> split <;> omega

set_option maxRecDepth 100000 in
set_option maxHeartbeats 1000000 in
theorem at_any (s : ByteArray) (w : World) (hs : s.size ≤ 4294967296) :
    Calls Tryz.prog 25 #[.string s, .int .i64 s.size] w fun e w' => e = .returned (.agg #[.int .i64 (endL s), .int .i64 (endC s)]) ∧ Below w.heap.size w w' := by
  have H0 : Hid ((((w.alloc (.cells #[.int .i64 0, .int .i64 0] 29)).alloc (.cells #[.int .i64 1, .int .i64 1] 29)).iter s 0).heap[w.heap.size + 2]? = some (.stringIter s 0) ∧
      PosAt (((w.alloc (.cells #[.int .i64 0, .int .i64 0] 29)).alloc (.cells #[.int .i64 1, .int .i64 1] 29)).iter s 0) w.heap.size 29 0 0 ∧
      PosAt (((w.alloc (.cells #[.int .i64 0, .int .i64 0] 29)).alloc (.cells #[.int .i64 1, .int .i64 1] 29)).iter s 0) (w.heap.size + 1) 29 1 1 ∧
      Below w.heap.size w (((w.alloc (.cells #[.int .i64 0, .int .i64 0] 29)).alloc (.cells #[.int .i64 1, .int .i64 1] 29)).iter s 0)) := by
    refine ⟨?_, ?_, ?_, ?_⟩
    · have := World.iter_heap ((w.alloc (.cells #[.int .i64 0, .int .i64 0] 29)).alloc (.cells #[.int .i64 1, .int .i64 1] 29)) s 0
      simpa using this
    · show (World.iter _ s 0).heap[w.heap.size]? = _
      rw [(World.iter_extends ((w.alloc (.cells #[.int .i64 0, .int .i64 0] 29)).alloc (.cells #[.int .i64 1, .int .i64 1] 29)) s 0).block _ (by simp; omega), Below.heap_alloc _ _ _ (by simp)]
      exact heap_alloc_new w _
    · show (World.iter _ s 0).heap[w.heap.size + 1]? = _
      rw [(World.iter_extends ((w.alloc (.cells #[.int .i64 0, .int .i64 0] 29)).alloc (.cells #[.int .i64 1, .int .i64 1] 29)) s 0).block _ (by simp)]
      have := heap_alloc_new (w.alloc (.cells #[.int .i64 0, .int .i64 0] 29)) (.cells #[.int .i64 1, .int .i64 1] 29)
      simpa using this
    · exact (((Below.refl _ w).alloc (Nat.le_refl _) _).alloc (by simp) _).alloc (by simp; omega) _
  go_enter Tryz.func25, Tryz.ntmps25
  go_wp2
  go_loopw [6, 7] (fun _ _ wr => ∃ (p : Nat) (line col : Int), p ≤ s.size ∧ (0 ≤ line ∧ line ≤ p + 1 ∧ 0 ≤ col ∧ col ≤ p + 1) ∧ wr.heap[w.heap.size + 2]? = some (.stringIter s p) ∧ PosAt wr w.heap.size 29 0 0 ∧
      PosAt wr (w.heap.size + 1) 29 line col ∧ Below w.heap.size w wr ∧ Hid (endP s 0 1 1 = endP s p line col)) (fun _ _ wr => s.size - wr.iterPos (w.heap.size + 2))
  case atStart => exact ⟨0, 1, 1, Nat.zero_le _, by omega, H0.out.1, H0.out.2.1, H0.out.2.2.1, H0.out.2.2.2, rfl⟩
  case round =>
    obtain ⟨p, line, col, hp, ⟨hl0, hl1, hl2, hl3⟩, hit, hres, hpos, hb, HE⟩ := hrel
    clear H0
    have hpo : (wr.iterPos (w.heap.size + 2)) = p := by simp [World.iterPos, hit]
    have HPO := Lib.hid hpo; clear hpo
    by_cases hlt : p < s.size
    · have hnx := fun ty => Lib.run_next_any_at (P := Tryz.prog) wr (w.heap.size + 2) s p ty hit hlt
      have hit1 := Lib.iterAt_heap wr (w.heap.size + 2) s p (p + (Utf8.decode s p).2) hit
      have hres1 := hres.iterAt (w.heap.size + 2) s (p + (Utf8.decode s p).2) (by omega)
      have hpos1 := hpos.iterAt (w.heap.size + 2) s (p + (Utf8.decode s p).2) (by omega)
      have hb1 := Lib.below_iterAt hb (k := w.heap.size + 2) (by omega) s (p + (Utf8.decode s p).2)
      have hdn := decN_pos s p
      have hdl := decN_le s p hlt
      have hnr := nextRaw s p line col
      have hbd := next_bd (rawR s p) line col p (decN s p) hdn ⟨hl0, hl1, hl2, hl3⟩
      have HE' : Hid (endP s 0 1 1 = endP s (p + decN s p) (nextLine (rawR s p) line) (nextCol (rawR s p) col)) := by
        unfold Hid; rw [HE.out, endP_next s p line col hlt, hnr.1, hnr.2]
      have HBD := Lib.hid hbd
      obtain ⟨c0, c1, f0, f1⟩ := hpos1.facts
      have hltz : (p : Int) < (s.size : Int) := by omega
      have hszw : w.heap.size + 2 < (wr.iterAt (w.heap.size + 2) s (p + (Utf8.decode s p).2)).heap.size := (Array.getElem?_eq_some_iff.1 hit1).1
      have HX := Lib.hid (And.intro hit1 (And.intro hres1 (And.intro hpos1 (And.intro hb1 hszw))))
      clear hit hres hpos hb hit1 hres1 hpos1 hb1 hszw hnr hbd HE
      go_wp2_with fail
      refine (next_any line col _ _ hl0 (by omega) hl2 (by omega)).mono ?_
      rintro e w4 ⟨rfl, hb4⟩
      have hpos4 := HX.out.2.2.1.below hb4 (by have := HX.out.2.2.2.2; omega)
      have hres4 := HX.out.2.1.below hb4 (by have := HX.out.2.2.2.2; omega)
      have hit4 := (hb4.block _ HX.out.2.2.2.2).trans HX.out.1
      have hlow4 := HX.out.2.2.2.1.trans (hb4.mono (by have := HX.out.2.2.2.2; omega))
      obtain ⟨a0, a1, b0, b1⟩ := hpos4.facts
      have hit5 : ((w4.setCell ⟨w.heap.size + 1, 0, none⟩ (.int .i64 (nextLine (rawR s p) line))).setCell ⟨w.heap.size + 1, 1, none⟩ (.int .i64 (nextCol (rawR s p) col))).heap[w.heap.size + 2]? = some (.stringIter s (p + decN s p)) := by
        rw [Below.heap_setCell _ _ _ _ (by show w.heap.size + 2 ≠ w.heap.size + 1; omega), Below.heap_setCell _ _ _ _ (by show w.heap.size + 2 ≠ w.heap.size + 1; omega)]; exact hit4
      have hres5 : PosAt ((w4.setCell ⟨w.heap.size + 1, 0, none⟩ (.int .i64 (nextLine (rawR s p) line))).setCell ⟨w.heap.size + 1, 1, none⟩ (.int .i64 (nextCol (rawR s p) col))) w.heap.size 29 0 0 := by
        unfold PosAt
        rw [Below.heap_setCell _ _ _ _ (by show w.heap.size ≠ w.heap.size + 1; omega), Below.heap_setCell _ _ _ _ (by show w.heap.size ≠ w.heap.size + 1; omega)]; exact hres4
      have HY := Lib.hid (And.intro hit5 (And.intro hres5 (And.intro (hpos4.stored (nextLine (rawR s p) line) (nextCol (rawR s p) col)) ((hlow4.setCell (p := ⟨w.heap.size + 1, 0, none⟩) (by show w.heap.size ≤ w.heap.size + 1; omega) (.int .i64 (nextLine (rawR s p) line))).setCell (p := ⟨w.heap.size + 1, 1, none⟩) (by show w.heap.size ≤ w.heap.size + 1; omega) (.int .i64 (nextCol (rawR s p) col))))))
      clear hpos4 hres4 hit4 hlow4 hit5 hres5 hb4
      go_wp2
      go_roundw
      case rel => exact ⟨p + decN s p, _, _, hdl, HBD.out, HY.out.1, HY.out.2.1, HY.out.2.2.1, HY.out.2.2.2, HE'⟩
      case measure => exact iter_less HY.out.1 HPO.out (by omega) hdl
    · have hnx := fun ty => Lib.run_next_end_at (P := Tryz.prog) wr (w.heap.size + 2) s p ty hit hlt
      obtain ⟨c0, c1, f0, f1⟩ := hpos.facts
      obtain ⟨d0, d1, e0, e1⟩ := hres.facts
      have HF : Hid (endL s = line ∧ endC s = col) := by
        have h2 := endP_end s p line col hlt
        unfold Hid endL endC; rw [HE.out, h2]; exact ⟨rfl, rfl⟩
      have h5 := (hres.stored line col).facts
      obtain ⟨q0, q1, q2, q3⟩ := h5
      have HB := Lib.hid ((hb.setCell (p := ⟨w.heap.size, 0, none⟩) (Nat.le_refl _) (.int .i64 line)).setCell (p := ⟨w.heap.size, 1, none⟩) (Nat.le_refl _) (.int .i64 col))
      clear hit hres hpos hb
      go_wp2
      exact bodyPost_ret (v := .agg #[.int .i64 line, .int .i64 col]) (by simp [results, Tryz.results25, go_sem, q0, q1]) rfl ⟨by rw [HF.out.1, HF.out.2], HB.out⟩

end Go.Proofs.YthhjepgcbfmfeaaGreatDoor

namespace Go.Proofs.YthhjepgcbfmfeaaGreatDoor
open Go.RowKit

def rAt (L : List Rn) (i : Nat) : Int := match L[i]? with | some x => x.r | none => -1
theorem rAt_some {L : List Rn} {i : Nat} {x : Rn} (h : L[i]? = some x) : rAt L i = x.r := by unfold rAt; rw [h]
theorem rAt_none {L : List Rn} {i : Nat} (h : L.length ≤ i) : rAt L i = -1 := by unfold rAt; rw [List.getElem?_eq_none h]

def smallB (c : Int) : Bool := decide (97 ≤ c ∧ c ≤ 122)
def greatB (c : Int) : Bool := decide (65 ≤ c ∧ c ≤ 90)
def digitB (c : Int) : Bool := decide (48 ≤ c ∧ c ≤ 57)
def blankB (c : Int) : Bool := decide (c = 32 ∨ c = 9 ∨ c = 10 ∨ c = 13)
def letterB (c : Int) : Bool := smallB c || greatB c
def innerB (c : Int) : Bool := letterB c || (digitB c || decide (c = 95))

/-- where a row of runes of a kind ends -/
def rowF (q : Int → Bool) (L : List Rn) : Nat → Nat → Nat
  | 0, i => i
  | k + 1, i => if q (rAt L i) then rowF q L k (i + 1) else i
def rowE (q : Int → Bool) (L : List Rn) (i : Nat) : Nat := rowF q L (L.length - i) i
theorem rowF_more (q : Int → Bool) (hq : q (-1) = false) (L : List Rn) (k i : Nat) (h : L.length ≤ i + k) : rowF q L (k + 1) i = rowF q L k i := by
  induction k generalizing i with
  | zero => simp only [rowF]; rw [rAt_none (by omega), hq]; rfl
  | succ k ih =>
    rw [rowF]
    conv => rhs; rw [rowF]
    cases q (rAt L i)
    · rfl
    · simp only [if_true]; exact ih _ (by omega)
theorem rowE_yes (q : Int → Bool) (hq : q (-1) = false) (L : List Rn) (i : Nat) (h : q (rAt L i) = true) : rowE q L i = rowE q L (i + 1) := by
  have hi : i < L.length := by
    by_cases hc : i < L.length
    · exact hc
    · rw [rAt_none (by omega), hq] at h; cases h
  unfold rowE
  obtain ⟨k, hk⟩ : ∃ k, L.length - i = k + 1 := ⟨L.length - i - 1, by omega⟩
  rw [hk, rowF, if_pos h, show L.length - (i + 1) = k by omega]
theorem rowE_no (q : Int → Bool) (L : List Rn) (i : Nat) (h : q (rAt L i) = false) : rowE q L i = i := by
  unfold rowE
  cases L.length - i with
  | zero => rfl
  | succ k => rw [rowF, h]; rfl
theorem rowF_ge (q : Int → Bool) (L : List Rn) (k i : Nat) : i ≤ rowF q L k i ∧ rowF q L k i ≤ i + k := by
  induction k generalizing i with
  | zero => simp [rowF]
  | succ k ih =>
    rw [rowF]
    split
    · have := ih (i + 1); omega
    · omega
theorem rowE_ge (q : Int → Bool) (L : List Rn) (i : Nat) : i ≤ rowE q L i ∧ (i ≤ L.length → rowE q L i ≤ L.length) := by
  have := rowF_ge q L (L.length - i) i
  unfold rowE
  exact ⟨this.1, fun h => by omega⟩
theorem rowE_all (q : Int → Bool) (L : List Rn) (i j : Nat) (h0 : i ≤ j) (h1 : j < rowE q L i) : q (rAt L j) = true := by
  have key : ∀ k i, i ≤ j → j < rowF q L k i → q (rAt L j) = true := by
    intro k
    induction k with
    | zero => intro i a b; simp only [rowF] at b; omega
    | succ k ih =>
      intro i a b
      rw [rowF] at b
      by_cases hq : q (rAt L i) = true
      · rw [if_pos hq] at b
        by_cases e : i = j
        · subst e; exact hq
        · exact ih (i + 1) (by omega) b
      · rw [if_neg hq] at b; omega
  exact key _ i h0 h1

/-- a token -/
structure Tk where
  kind : Int
  text : ByteArray
  num : Int
  line : Int
  col : Int
def tkCells (x : Tk) : List Value := [.int .i64 x.kind, .string x.text, .int .i64 x.num, .int .i64 x.line, .int .i64 x.col]
def tkFlat (l : List Tk) : List Value := l.flatMap tkCells
theorem tkFlat_len (l : List Tk) : (tkFlat l).length = l.length * 5 := by
  induction l with
  | nil => rfl
  | cons x r ih => simp only [tkFlat, List.flatMap_cons, List.length_append, List.length_cons] at *; rw [ih]; simp [tkCells]; omega
theorem tkFlat_snoc (l : List Tk) (x : Tk) : tkFlat (l ++ [x]) = tkFlat l ++ tkCells x := by simp [tkFlat]
theorem tkFlat_cons (x : Tk) (l : List Tk) : tkFlat (x :: l) = tkCells x ++ tkFlat l := by simp [tkFlat]
theorem tkFlat_get (l : List Tk) (i j : Nat) (x : Tk) (hx : l[i]? = some x) (hj : j < 5) : (tkFlat l)[i * 5 + j]? = (tkCells x)[j]? := by
  induction l generalizing i with
  | nil => simp at hx
  | cons y r ih =>
    rw [tkFlat_cons]
    cases i with
    | zero =>
      simp only [List.getElem?_cons_zero, Option.some.injEq] at hx
      subst hx
      rw [Nat.zero_mul, Nat.zero_add, List.getElem?_append_left (by simp [tkCells]; omega)]
    | succ i =>
      rw [List.getElem?_append_right (by simp [tkCells]; omega)]
      rw [show (i + 1) * 5 + j - (tkCells y).length = i * 5 + j by simp [tkCells]; omega]
      exact ih i (by simpa using hx)
theorem tkFlat_last (l : List Tk) (j : Nat) (x y : Tk) (v : Value) (hj : j < 5) (hy : (tkCells x).set j v = tkCells y) : (tkFlat (l ++ [x])).set (l.length * 5 + j) v = tkFlat (l ++ [y]) := by
  rw [tkFlat_snoc, tkFlat_snoc, List.set_append_right _ _ (by rw [tkFlat_len]; omega), tkFlat_len]
  rw [show l.length * 5 + j - l.length * 5 = j by omega, hy]

end Go.Proofs.YthhjepgcbfmfeaaGreatDoor

namespace Go.Proofs.YthhjepgcbfmfeaaGreatDoor
open Go.RowKit

/-- the reader: its struct in block b, its runes L, its place i, its tokens T, all of them made from block B on -/
structure Rd (w : World) (B b : Nat) (s : ByteArray) (L : List Rn) (lv : Value) (i : Nat) (ov : Value) (T : List Tk) : Prop where
  blk : w.heap[b]? = some (.cells #[.string s, lv, .int .i64 i, ov] 71 (0, 0))
  low : B ≤ b
  run : w.ownsRow B 89 5 lv L.length (rnFlat .i32 L)
  out : w.ownsRow B 54 5 ov T.length (tkFlat T)

theorem Rd.lt {w : World} {B b : Nat} {s : ByteArray} {L : List Rn} {lv : Value} {i : Nat} {ov : Value} {T : List Tk} (h : Rd w B b s L lv i ov T) : b < w.heap.size := (Array.getElem?_eq_some_iff.1 h.blk).1

theorem Rd.facts {w : World} {B b : Nat} {s : ByteArray} {L : List Rn} {lv : Value} {i : Nat} {ov : Value} {T : List Tk} (h : Rd w B b s L lv i ov T) :
    w.cell? ⟨b, 0, none⟩ = some (.string s) ∧ w.cell? ⟨b, 1, none⟩ = some lv ∧ w.cell? ⟨b, 2, none⟩ = some (.int .i64 i) ∧ w.cell? ⟨b, 3, none⟩ = some ov ∧ w.frozen? ⟨b, 2, none⟩ = false ∧ w.frozen? ⟨b, 3, none⟩ = false := by
  have hb := h.blk
  refine ⟨?_, ?_, ?_, ?_, ?_, ?_⟩
  · simp [World.cell?, hb]
  · simp [World.cell?, hb]
  · simp [World.cell?, hb]
  · simp [World.cell?, hb]
  · simp [World.frozen?, hb]
  · simp [World.frozen?, hb]

theorem Rd.keep {w w' : World} {B b : Nat} {s : ByteArray} {L : List Rn} {lv : Value} {i : Nat} {ov : Value} {T : List Tk} (h : Rd w B b s L lv i ov T) (hb : Below w.heap.size w w') : Rd w' B b s L lv i ov T :=
  ⟨(hb.block b h.lt).trans h.blk, h.low, owns_below h.run hb, owns_below h.out hb⟩

/-- the runes' own cells -/
theorem Rd.rune {w : World} {B b : Nat} {s : ByteArray} {L : List Rn} {lv : Value} {i : Nat} {ov : Value} {T : List Tk} (h : Rd w B b s L lv i ov T) {j : Nat} {x : Rn} (hj : L[j]? = some x) :
    ∃ g cap, lv = .slice (some ⟨g, 0, none⟩) L.length cap ∧ w.cell? ⟨g, j * 5, none⟩ = some (.int .i32 x.r) ∧ w.cell? ⟨g, j * 5 + 1, none⟩ = some (.int .i64 x.fr) ∧ w.cell? ⟨g, j * 5 + 2, none⟩ = some (.int .i64 x.to) ∧
      w.cell? ⟨g, j * 5 + 3, none⟩ = some (.int .i64 x.line) ∧ w.cell? ⟨g, j * 5 + 4, none⟩ = some (.int .i64 x.col) := by
  have hjl := (List.getElem?_eq_some_iff.1 hj).1
  have hr := h.run
  obtain ⟨g, cap, rfl, hg, hgs⟩ := owns_shape hr (by omega)
  exact ⟨g, cap, rfl, (World.ownsRow.cellAt hr (j * 5) (by omega)).trans (rnFlat_get .i32 _ j 0 x hj (by omega)), (World.ownsRow.cellAt hr (j * 5 + 1) (by omega)).trans (rnFlat_get .i32 _ j 1 x hj (by omega)),
    (World.ownsRow.cellAt hr (j * 5 + 2) (by omega)).trans (rnFlat_get .i32 _ j 2 x hj (by omega)), (World.ownsRow.cellAt hr (j * 5 + 3) (by omega)).trans (rnFlat_get .i32 _ j 3 x hj (by omega)), (World.ownsRow.cellAt hr (j * 5 + 4) (by omega)).trans (rnFlat_get .i32 _ j 4 x hj (by omega))⟩

set_option maxHeartbeats 1000000 in
theorem rune_any {w : World} {B b : Nat} {s : ByteArray} {L : List Rn} {lv : Value} {i : Nat} {ov : Value} {T : List Tk} (h : Rd w B b s L lv i ov T) (n : Nat) (hL : L.length ≤ 16385) (hi : i ≤ 16385) (hn : n ≤ 16385) :
    Calls Tryz.prog 33 #[.pointer (some ⟨b, 0, none⟩), .int .i64 n] w fun e w' => e = .returned (.int .i32 (rAt L (i + n))) ∧ Below w.heap.size w w' := by
  obtain ⟨c0, c1, c2, c3, f2, f3⟩ := h.facts
  by_cases hlt : i + n < L.length
  · obtain ⟨x, hx⟩ : ∃ x, L[i + n]? = some x := ⟨_, List.getElem?_eq_getElem hlt⟩
    have HA := Lib.hid (rAt_some hx)
    obtain ⟨g, cap, rfl, d0, d1, d2, d3, d4⟩ := h.rune hx
    have hz1 : (i : Int) + n < (L.length : Int) := by omega
    have hz0 : (0 : Int) ≤ (i : Int) + n := by omega
    have ht : ((i : Int) + (n : Int)).toNat = i + n := by omega
    clear h hx d1 d2 d3 d4 c0 c3 f2 f3
    go_enter Tryz.func33, Tryz.ntmps33
    go_wp2
    go_quiet (fail)
    go_wp2
    go_quiet (fail)
    go_wp2
    go_ret
    exact ⟨by rw [HA.out]; rfl, Go.below_drewN (Go.below_drewN (Below.refl _ _) _) _⟩
  · have HA := Lib.hid (rAt_none (L := L) (i := i + n) (by omega))
    obtain ⟨ad, cap, rfl⟩ := owns_len h.run
    have hz1 : ¬ (i : Int) + n < (L.length : Int) := by omega
    clear h c0 c3 f2 f3
    go_enter Tryz.func33, Tryz.ntmps33
    go_wp2
    go_quiet (fail)
    go_wp2
    go_ret
    exact ⟨by rw [HA.out]; rfl, Go.below_drewN (Below.refl _ _) _⟩

set_option maxHeartbeats 400000 in
theorem smallB_any (c : Int) (w : World) : Calls Tryz.prog 51 #[.int .i32 c] w fun e w' => e = .returned (.bool (smallB c)) ∧ w = w' := by
  have H : Hid (smallB c = decide (97 ≤ c ∧ c ≤ 122)) := rfl
  rcases (show c < 97 ∨ (97 ≤ c ∧ c ≤ 122) ∨ 122 < c by omega) with h | ⟨h, h'⟩ | h
  all_goals
    go_enter Tryz.func51, Tryz.ntmps51
    go_wp2
    go_ret
    exact ⟨ret_bool (by rw [H.out]; simp; try omega), rfl⟩

set_option maxHeartbeats 400000 in
theorem greatB_any (c : Int) (w : World) : Calls Tryz.prog 57 #[.int .i32 c] w fun e w' => e = .returned (.bool (greatB c)) ∧ w = w' := by
  have H : Hid (greatB c = decide (65 ≤ c ∧ c ≤ 90)) := rfl
  rcases (show c < 65 ∨ (65 ≤ c ∧ c ≤ 90) ∨ 90 < c by omega) with h | ⟨h, h'⟩ | h
  all_goals
    go_enter Tryz.func57, Tryz.ntmps57
    go_wp2
    go_ret
    exact ⟨ret_bool (by rw [H.out]; simp; try omega), rfl⟩

set_option maxHeartbeats 400000 in
theorem digitB_any (c : Int) (w : World) : Calls Tryz.prog 39 #[.int .i32 c] w fun e w' => e = .returned (.bool (digitB c)) ∧ w = w' := by
  have H : Hid (digitB c = decide (48 ≤ c ∧ c ≤ 57)) := rfl
  rcases (show c < 48 ∨ (48 ≤ c ∧ c ≤ 57) ∨ 57 < c by omega) with h | ⟨h, h'⟩ | h
  all_goals
    go_enter Tryz.func39, Tryz.ntmps39
    go_wp2
    go_ret
    exact ⟨ret_bool (by rw [H.out]; simp; try omega), rfl⟩

set_option maxHeartbeats 1000000 in
theorem blankB_any (c : Int) (w : World) : Calls Tryz.prog 34 #[.int .i32 c] w fun e w' => e = .returned (.bool (blankB c)) ∧ w = w' := by
  rcases (show c = 32 ∨ c = 9 ∨ c = 10 ∨ c = 13 ∨ (c ≠ 32 ∧ c ≠ 9 ∧ c ≠ 10 ∧ c ≠ 13) by omega) with rfl | rfl | rfl | rfl | ⟨h1, h2, h3, h4⟩
  · have H : Hid (blankB 32 = true) := rfl
    go_enter Tryz.func34, Tryz.ntmps34
    go_wp2
    go_ret
    exact ⟨ret_bool H.out.symm, rfl⟩
  · have H : Hid (blankB 9 = true) := rfl
    go_enter Tryz.func34, Tryz.ntmps34
    go_wp2
    go_ret
    exact ⟨ret_bool H.out.symm, rfl⟩
  · have H : Hid (blankB 10 = true) := rfl
    go_enter Tryz.func34, Tryz.ntmps34
    go_wp2
    go_ret
    exact ⟨ret_bool H.out.symm, rfl⟩
  · have H : Hid (blankB 13 = true) := rfl
    go_enter Tryz.func34, Tryz.ntmps34
    go_wp2
    go_ret
    exact ⟨ret_bool H.out.symm, rfl⟩
  · have H : Hid (blankB c = false) := by unfold Hid blankB; simp [h1, h2, h3, h4]
    have e1 : (c == 32) = false := by simp [h1]
    have e2 : (c == 9) = false := by simp [h2]
    have e3 : (c == 10) = false := by simp [h3]
    have e4 : (c == 13) = false := by simp [h4]
    clear h1 h2 h3 h4
    go_enter Tryz.func34, Tryz.ntmps34
    go_wp2
    go_ret
    exact ⟨ret_bool H.out.symm, rfl⟩

set_option maxHeartbeats 1000000 in
theorem letterB_any (c : Int) (w : World) : Calls Tryz.prog 37 #[.int .i32 c] w fun e w' => e = .returned (.bool (letterB c)) ∧ w = w' := by
  have H : Hid (letterB c = (smallB c || greatB c)) := rfl
  cases h1 : smallB c
  · have H1 := Lib.hid h1; clear h1
    go_enter Tryz.func37, Tryz.ntmps37
    go_wp2_with fail
    refine (smallB_any c _).mono ?_
    rintro e w' ⟨rfl, rfl⟩
    rw [H1.out]
    go_wp2_with fail
    refine (greatB_any c _).mono ?_
    rintro e w' ⟨rfl, rfl⟩
    go_wp2
    go_ret
    exact ⟨ret_bool (by rw [H.out, H1.out]; simp), rfl⟩
  · have H1 := Lib.hid h1; clear h1
    go_enter Tryz.func37, Tryz.ntmps37
    go_wp2_with fail
    refine (smallB_any c _).mono ?_
    rintro e w' ⟨rfl, rfl⟩
    rw [H1.out]
    go_wp2
    go_ret
    exact ⟨ret_bool (by rw [H.out, H1.out]; simp), rfl⟩

set_option maxHeartbeats 1000000 in
theorem innerB_any (c : Int) (w : World) : Calls Tryz.prog 59 #[.int .i32 c] w fun e w' => e = .returned (.bool (innerB c)) ∧ w = w' := by
  have H : Hid (innerB c = (letterB c || (digitB c || decide (c = 95)))) := rfl
  cases h1 : letterB c
  · have H1 := Lib.hid h1; clear h1
    cases h2 : digitB c
    · have H2 := Lib.hid h2; clear h2
      go_enter Tryz.func59, Tryz.ntmps59
      go_wp2_with fail
      refine (letterB_any c _).mono ?_
      rintro e w' ⟨rfl, rfl⟩
      rw [H1.out]
      go_wp2_with fail
      refine (digitB_any c _).mono ?_
      rintro e w' ⟨rfl, rfl⟩
      rw [H2.out]
      go_wp2
      go_ret
      exact ⟨ret_bool (by rw [H.out, H1.out, H2.out]; simp; rfl), rfl⟩
    · have H2 := Lib.hid h2; clear h2
      go_enter Tryz.func59, Tryz.ntmps59
      go_wp2_with fail
      refine (letterB_any c _).mono ?_
      rintro e w' ⟨rfl, rfl⟩
      rw [H1.out]
      go_wp2_with fail
      refine (digitB_any c _).mono ?_
      rintro e w' ⟨rfl, rfl⟩
      rw [H2.out]
      go_wp2
      go_ret
      exact ⟨ret_bool (by rw [H.out, H1.out, H2.out]; simp), rfl⟩
  · have H1 := Lib.hid h1; clear h1
    go_enter Tryz.func59, Tryz.ntmps59
    go_wp2_with fail
    refine (letterB_any c _).mono ?_
    rintro e w' ⟨rfl, rfl⟩
    rw [H1.out]
    go_wp2
    go_ret
    exact ⟨ret_bool (by rw [H.out, H1.out]; simp), rfl⟩

set_option maxHeartbeats 1000000 in
theorem row_innerB {w : World} {B b : Nat} {s : ByteArray} {L : List Rn} {lv : Value} {i : Nat} {ov : Value} {T : List Tk} (h : Rd w B b s L lv i ov T) (n : Nat) (hL : L.length ≤ 16385) (hi : i ≤ L.length) (hn : n ≤ 1) :
    Calls Tryz.prog 58 #[.pointer (some ⟨b, 0, none⟩), .int .i64 n, .func (.func 59) #[] #[]] w fun e w' => e = .returned (.int .i64 (rowE innerB L (i + n) - i : Nat)) ∧ Below w.heap.size w w' := by
  have HR := Lib.hid h
  clear h
  go_enter Tryz.func58, Tryz.ntmps58
  go_wp2
  go_loopw [1] (fun m wr => ∃ (k : Nat), k ≤ 16385 ∧ k ≤ L.length - i + 1 ∧ m = .int .i64 k ∧ Below w.heap.size w wr ∧ Hid (rowE innerB L (i + n) = rowE innerB L (i + k))) (fun m _ => L.length - i + 1 - (intOf m).toNat)
  case atStart => exact ⟨n, by omega, by omega, rfl, Below.refl _ _, rfl⟩
  case round =>
    obtain ⟨k, hk, hk2, rfl, hb, HE⟩ := hrel
    have HR2 := Lib.hid (HR.out.keep hb)
    have HB := Lib.hid hb
    clear hb
    cases hq : innerB (rAt L (i + k))
    · have HQ := Lib.hid hq
      have HF : Hid (rowE innerB L (i + n) - i = k) := by unfold Hid; rw [HE.out, rowE_no _ _ _ hq]; omega
      clear hq
      go_wp2_with fail
      refine (rune_any HR2.out k hL (by omega) hk).mono ?_
      rintro e w1 ⟨rfl, hb1⟩
      have HB1 := Lib.hid (HB.out.trans (hb1.mono HB.out.size)); clear hb1
      go_wp2_with fail
      refine (innerB_any _ _).mono ?_
      rintro e w' ⟨rfl, rfl⟩
      rw [HQ.out]
      go_wp2
      go_ret
      exact ⟨ret_int (by rw [HF.out]), HB1.out⟩
    · have HQ := Lib.hid hq
      have hlt : i + k < L.length := by
        by_cases hc : i + k < L.length
        · exact hc
        · rw [rAt_none (by omega)] at hq; exact absurd hq (by decide)
      have HE2 : Hid (rowE innerB L (i + n) = rowE innerB L (i + (k + 1))) := by unfold Hid; rw [HE.out, rowE_yes _ (by decide) _ _ hq]; rfl
      clear hq
      go_wp2_with fail
      refine (rune_any HR2.out k hL (by omega) hk).mono ?_
      rintro e w1 ⟨rfl, hb1⟩
      have HB1 := Lib.hid (HB.out.trans (hb1.mono HB.out.size)); clear hb1
      go_wp2_with fail
      refine (innerB_any _ _).mono ?_
      rintro e w' ⟨rfl, rfl⟩
      rw [HQ.out]
      go_wp2
      go_roundw
      case rel => exact ⟨k + 1, by omega, by omega, by go_num, HB1.out, HE2⟩
      case measure => simp [intOf]; omega

set_option maxHeartbeats 1000000 in
theorem row_digitB {w : World} {B b : Nat} {s : ByteArray} {L : List Rn} {lv : Value} {i : Nat} {ov : Value} {T : List Tk} (h : Rd w B b s L lv i ov T) (n : Nat) (hL : L.length ≤ 16385) (hi : i ≤ L.length) (hn : n ≤ 1) :
    Calls Tryz.prog 58 #[.pointer (some ⟨b, 0, none⟩), .int .i64 n, .func (.func 39) #[] #[]] w fun e w' => e = .returned (.int .i64 (rowE digitB L (i + n) - i : Nat)) ∧ Below w.heap.size w w' := by
  have HR := Lib.hid h
  clear h
  go_enter Tryz.func58, Tryz.ntmps58
  go_wp2
  go_loopw [1] (fun m wr => ∃ (k : Nat), k ≤ 16385 ∧ k ≤ L.length - i + 1 ∧ m = .int .i64 k ∧ Below w.heap.size w wr ∧ Hid (rowE digitB L (i + n) = rowE digitB L (i + k))) (fun m _ => L.length - i + 1 - (intOf m).toNat)
  case atStart => exact ⟨n, by omega, by omega, rfl, Below.refl _ _, rfl⟩
  case round =>
    obtain ⟨k, hk, hk2, rfl, hb, HE⟩ := hrel
    have HR2 := Lib.hid (HR.out.keep hb)
    have HB := Lib.hid hb
    clear hb
    cases hq : digitB (rAt L (i + k))
    · have HQ := Lib.hid hq
      have HF : Hid (rowE digitB L (i + n) - i = k) := by unfold Hid; rw [HE.out, rowE_no _ _ _ hq]; omega
      clear hq
      go_wp2_with fail
      refine (rune_any HR2.out k hL (by omega) hk).mono ?_
      rintro e w1 ⟨rfl, hb1⟩
      have HB1 := Lib.hid (HB.out.trans (hb1.mono HB.out.size)); clear hb1
      go_wp2_with fail
      refine (digitB_any _ _).mono ?_
      rintro e w' ⟨rfl, rfl⟩
      rw [HQ.out]
      go_wp2
      go_ret
      exact ⟨ret_int (by rw [HF.out]), HB1.out⟩
    · have HQ := Lib.hid hq
      have hlt : i + k < L.length := by
        by_cases hc : i + k < L.length
        · exact hc
        · rw [rAt_none (by omega)] at hq; exact absurd hq (by decide)
      have HE2 : Hid (rowE digitB L (i + n) = rowE digitB L (i + (k + 1))) := by unfold Hid; rw [HE.out, rowE_yes _ (by decide) _ _ hq]; rfl
      clear hq
      go_wp2_with fail
      refine (rune_any HR2.out k hL (by omega) hk).mono ?_
      rintro e w1 ⟨rfl, hb1⟩
      have HB1 := Lib.hid (HB.out.trans (hb1.mono HB.out.size)); clear hb1
      go_wp2_with fail
      refine (digitB_any _ _).mono ?_
      rintro e w' ⟨rfl, rfl⟩
      rw [HQ.out]
      go_wp2
      go_roundw
      case rel => exact ⟨k + 1, by omega, by omega, by go_num, HB1.out, HE2⟩
      case measure => simp [intOf]; omega

set_option maxHeartbeats 1000000 in
theorem fault_any {w : World} {B b : Nat} {s : ByteArray} {L : List Rn} {lv : Value} {i : Nat} {ov : Value} {T : List Tk} (h : Rd w B b s L lv i ov T) (er : Int) (x : Rn) (hx : L[i]? = some x) (_hL : L.length ≤ 16385) :
    Calls Tryz.prog 53 #[.pointer (some ⟨b, 0, none⟩), .int .i64 er] w fun e w' => e = .returned (.agg #[.int .i64 er, .int .i64 x.line, .int .i64 x.col]) ∧ Below w.heap.size w w' := by
  have hi := (List.getElem?_eq_some_iff.1 hx).1
  obtain ⟨c0, c1, c2, c3, f2, f3⟩ := h.facts
  obtain ⟨g, cap, rfl, d0, d1, d2, d3, d4⟩ := h.rune hx
  have hbl := h.lt
  have hgl := World.block_lt_of_cell? w _ d0
  have hiz : (i : Int) < (L.length : Int) := by omega
  clear h hx d0 d1 d2 c0 c3 f2 f3
  go_enter Tryz.func53, Tryz.ntmps53
  go_wp2
  go_region_held3 (fun w' => w'.cell? ⟨b, 1, none⟩ = some (.slice (some ⟨g, 0, none⟩) L.length cap) ∧ w'.cell? ⟨b, 2, none⟩ = some (.int .i64 i) ∧ w'.cell? ⟨g, i * 5 + 3, none⟩ = some (.int .i64 x.line) ∧ w'.cell? ⟨g, i * 5 + 4, none⟩ = some (.int .i64 x.col))
    (first | go_keep)
    (first | fail)
  go_wp2
  exact bodyPost_ret (v := .agg #[.int .i64 er, .int .i64 x.line, .int .i64 x.col]) (by simp [results, Tryz.results53, go_sem]) rfl ⟨rfl, ((Below.refl _ _).alloc (Nat.le_refl _) _).drew⟩

end Go.Proofs.YthhjepgcbfmfeaaGreatDoor
