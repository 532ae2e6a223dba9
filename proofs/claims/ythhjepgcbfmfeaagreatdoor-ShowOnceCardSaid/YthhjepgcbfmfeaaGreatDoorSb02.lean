/- Contracts of package text: the runes of a text, and their places; for texts of at most 2 to the 40th bytes. -/
import Derived.Test.YthhjepgcbfmfeaaGreatDoorSb01
import Derived.Lib.OthersKept

namespace Go.Proofs.YthhjepgcbfmfeaaGreatDoor
open Go.RowKit

set_option maxHeartbeats 400000 in
theorem next_any (line col r : Int) (w : World) (h0 : 0 ≤ line) (h1 : line ≤ 4611686018427387904) (h2 : 0 ≤ col) (h3 : col ≤ 4611686018427387904) :
    Calls Tryz.prog 41 #[.agg #[.int .i64 line, .int .i64 col], .int .i32 r] w fun e w' => e = .returned (.agg #[.int .i64 (nextLine r line), .int .i64 (nextCol r col)]) ∧ Below w.heap.size w w' := by
  by_cases hr : r = 10
  · subst hr
    have H1 : Hid (nextLine 10 line = line + 1) := rfl
    have H2 : Hid (nextCol 10 col = 1) := rfl
    go_enter Tryz.func41, Tryz.ntmps41
    go_wp2
    exact bodyPost_ret (v := .agg #[.int .i64 (line + 1), .int .i64 1]) (by simp [results, Tryz.results41, go_sem]) rfl ⟨by rw [H1.out, H2.out], (((Below.refl _ _).alloc (Nat.le_refl _) _).alloc (by simp) _)⟩
  · have H1 : Hid (nextLine r line = line) := if_neg hr
    have H2 : Hid (nextCol r col = col + 1) := if_neg hr
    have hb : (r == 10) = false := by simp [hr]
    clear hr
    go_enter Tryz.func41, Tryz.ntmps41
    go_wp2
    exact bodyPost_ret (v := .agg #[.int .i64 line, .int .i64 (col + 1)]) (by simp [results, Tryz.results41, go_sem]) rfl ⟨by rw [H1.out, H2.out], (((Below.refl _ _).alloc (Nat.le_refl _) _).alloc (by simp) _)⟩

theorem info_rune : (Tryz.prog.info? 89).map (fun i => (i.zero, i.size, i.bytes)) = some (some (.agg #[.int .i32 0, .int .i64 0, .int .i64 0, .int .i64 0, .int .i64 0]), 5, 40) := by kernel_rfl

/-- a place in a block of its own -/
def PosAt (w : World) (b : Nat) (t : TypeId) (line col : Int) : Prop := w.heap[b]? = some (.cells #[.int .i64 line, .int .i64 col] t (0, 0))
theorem PosAt.facts {w : World} {b : Nat} {t : TypeId} {line col : Int} (h : PosAt w b t line col) :
    w.cell? ⟨b, 0, none⟩ = some (.int .i64 line) ∧ w.cell? ⟨b, 1, none⟩ = some (.int .i64 col) ∧ w.frozen? ⟨b, 0, none⟩ = false ∧ w.frozen? ⟨b, 1, none⟩ = false := by
  unfold PosAt at h
  refine ⟨?_, ?_, ?_, ?_⟩
  · simp [World.cell?, h]
  · simp [World.cell?, h]
  · simp [World.frozen?, h]
  · simp [World.frozen?, h]
theorem PosAt.iterAt {w : World} {b : Nat} {t : TypeId} {line col : Int} (h : PosAt w b t line col) (k : Nat) (s : ByteArray) (p : Nat) (hk : b ≠ k) : PosAt (w.iterAt k s p) b t line col := (Lib.iterAt_other w k b s p hk).trans h

theorem PosAt.below {w w' : World} {b : Nat} {t : TypeId} {line col : Int} (h : PosAt w b t line col) {B : Nat} (hb : Below B w w') (hB : b < B) : PosAt w' b t line col := (hb.block b hB).trans h
theorem PosAt.lt {w : World} {b : Nat} {t : TypeId} {line col : Int} (h : PosAt w b t line col) : b < w.heap.size := (Array.getElem?_eq_some_iff.1 h).1
theorem PosAt.stored {w : World} {b : Nat} {t : TypeId} {line col : Int} (h : PosAt w b t line col) (l' c' : Int) : PosAt ((w.setCell ⟨b, 0, none⟩ (.int .i64 l')).setCell ⟨b, 1, none⟩ (.int .i64 c')) b t l' c' := by
  have h1 := heap_setCell_same w b 0 _ t (.int .i64 l') h
  have h2 := heap_setCell_same _ b 1 _ t (.int .i64 c') h1
  exact h2

/-- a list but for the end of its last rune, which is another -/
def openLast (e : Nat) (l : List Rn) : List Rn :=
  match l.reverse with
  | [] => []
  | x :: r => r.reverse ++ [{ x with to := e }]
theorem openLast_snoc (e : Nat) (l : List Rn) (x : Rn) : openLast e (l ++ [x]) = l ++ [{ x with to := e }] := by simp [openLast]

/-- what a round of the loop over runes leaves -/
structure RunesRel (s : ByteArray) (t tr : TypeId) (w : World) (v : Value) (wr : World) (pre : List Rn) (p : Nat) (line col : Int) : Prop where
  hp : p ≤ s.size
  hn : pre.length ≤ 16385
  hl : 0 ≤ line ∧ line ≤ p + 1 ∧ 0 ≤ col ∧ col ≤ p + 1
  it : wr.heap[w.heap.size + 1]? = some (.stringIter s p)
  pos : PosAt wr w.heap.size t line col
  own : wr.ownsRow (w.heap.size + 2) tr 5 v pre.length (rnFlat .i32 (openLast s.size pre))
  low : Below w.heap.size w wr
  eq : allRaw s = pre ++ restG (rawR s) s p line col
  last : ∀ l x, pre = l ++ [x] → x.to = p

theorem RunesRel.next {s : ByteArray} {t tr : TypeId} {w W2 w3 w4 : World} {v3 : Value} {pre : List Rn} {p : Nat} {line col : Int} (hlt : p < s.size) (hn : pre.length < 16385)
    (hl : 0 ≤ line ∧ line ≤ p + 1 ∧ 0 ≤ col ∧ col ≤ p + 1) (it2 : W2.heap[w.heap.size + 1]? = some (.stringIter s (p + decN s p))) (low2 : Below w.heap.size w W2)
    (pos2 : PosAt W2 w.heap.size t line col) (own3 : w3.ownsRow (w.heap.size + 2) tr 5 v3 (pre.length + 1) (rnFlat .i32 pre ++ [.int .i32 (rawR s p), .int .i64 p, .int .i64 s.size, .int .i64 line, .int .i64 col])) (hb3 : Below (w.heap.size + 2) W2 w3)
    (hb4 : Below w3.heap.size w3 w4) (eq : allRaw s = pre ++ restG (rawR s) s p line col) :
    RunesRel s t tr w v3 ((w4.setCell ⟨w.heap.size, 0, none⟩ (.int .i64 (nextLine (rawR s p) line))).setCell ⟨w.heap.size, 1, none⟩ (.int .i64 (nextCol (rawR s p) col)))
      (pre ++ [⟨rawR s p, p, p + decN s p, line, col⟩]) (p + decN s p) (nextLine (rawR s p) line) (nextCol (rawR s p) col) := by
  have hd := decN_pos s p
  have hd' := decN_le s p hlt
  have hsz := (Array.getElem?_eq_some_iff.1 it2).1
  have hsz3 : W2.heap.size ≤ w3.heap.size := hb3.size
  have pos4 : PosAt w4 w.heap.size t line col := (pos2.below hb3 (by omega)).below hb4 (by omega)
  refine ⟨hd', by simp; omega, ?_, ?_, pos4.stored _ _, ?_, ?_, ?_, ?_⟩
  · obtain ⟨a, b, c, d⟩ := hl
    unfold nextLine nextCol
    refine ⟨?_, ?_, ?_, ?_⟩ <;> split <;> omega
  · rw [Below.heap_setCell _ _ _ _ (by show w.heap.size + 1 ≠ w.heap.size; omega), Below.heap_setCell _ _ _ _ (by show w.heap.size + 1 ≠ w.heap.size; omega), hb4.block _ (by omega), hb3.block _ (by omega)]
    exact it2
  · rw [openLast_snoc, rnFlat_snoc]
    have o4 := owns_below own3 hb4
    have o5 := ownsRow_setCell_below (ownsRow_setCell_below o4 (a := ⟨w.heap.size, 0, none⟩) (by show w.heap.size < w.heap.size + 2; omega) (.int .i64 (nextLine (rawR s p) line))) (a := ⟨w.heap.size, 1, none⟩) (by show w.heap.size < w.heap.size + 2; omega) (.int .i64 (nextCol (rawR s p) col))
    rw [List.length_append, List.length_cons, List.length_nil]
    exact o5
  · have l3 : Below w.heap.size w w3 := low2.trans (hb3.mono (by omega))
    have l4 : Below w.heap.size w w4 := l3.trans (hb4.mono (by omega))
    exact (l4.setCell (p := ⟨w.heap.size, 0, none⟩) (Nat.le_refl _) _).setCell (p := ⟨w.heap.size, 1, none⟩) (Nat.le_refl _) _
  · rw [eq, restG_cons _ _ _ _ _ hlt, List.append_assoc]; rfl
  · intro l x h
    have := List.append_inj' h rfl
    have := List.cons.inj this.2
    rw [← this.1]

theorem iter_less {s : ByteArray} {k p q : Nat} {W wr : World} (h : W.heap[k]? = some (.stringIter s q)) (h' : wr.iterPos k = p) (h1 : p < q) (h2 : q ≤ s.size) : s.size - W.iterPos k < s.size - wr.iterPos k := by
  have : W.iterPos k = q := by simp [World.iterPos, h]
  omega

theorem runesAt_mem (g : Nat → Int) (s : ByteArray) (k p : Nat) (line col : Int) (x : Rn) (h : x ∈ runesAt g s k p line col) : x.fr < x.to ∧ x.to ≤ s.size ∧ p ≤ x.fr := by
  induction k generalizing p line col with
  | zero => simp [runesAt] at h
  | succ k ih =>
    simp only [runesAt] at h
    split at h
    · rename_i hp
      have h1 := decN_pos s p
      have h2 := decN_le s p hp
      rcases List.mem_cons.1 h with rfl | h
      · exact ⟨by simp; omega, h2, Nat.le_refl _⟩
      · have := ih _ _ _ h; omega
    · simp at h
theorem allRaw_mem (s : ByteArray) (x : Rn) (h : x ∈ allRaw s) : x.fr < x.to ∧ x.to ≤ s.size := by
  have := runesAt_mem _ _ _ _ _ _ _ h; omega

/-- the second pass: what stands there when k runes are through -/
def fixed (l : List Rn) (k : Nat) : List Rn := (l.take k).map Rn.fix ++ l.drop k
theorem fixed_len (l : List Rn) (k : Nat) : (fixed l k).length = l.length := by simp [fixed]; omega
theorem fixed_get (l : List Rn) (k : Nat) (x : Rn) (h : l[k]? = some x) : (fixed l k)[k]? = some x := by
  have hk := (List.getElem?_eq_some_iff.1 h).1
  unfold fixed
  rw [List.getElem?_append_right (by simp; omega)]
  simp only [List.length_map, List.length_take, List.getElem?_drop]
  rw [show k + (k - min k l.length) = k by omega]; exact h
theorem fixed_succ (l : List Rn) (k : Nat) (x : Rn) (h : l[k]? = some x) : fixed l (k + 1) = (fixed l k).set k x.fix := by
  have hk := (List.getElem?_eq_some_iff.1 h).1
  unfold fixed
  rw [List.set_append_right _ _ (by simp; omega)]
  rw [List.take_add_one, h, List.map_append, List.append_assoc]
  congr 1
  rw [show k - (List.map Rn.fix (List.take k l)).length = 0 by simp; omega]
  have this : l[k] = x := by rw [List.getElem?_eq_getElem hk] at h; simpa using h
  have e : List.drop k l = x :: List.drop (k + 1) l := by rw [List.drop_eq_getElem_cons hk, this]
  rw [e]; rfl
theorem fixed_same (l : List Rn) (k : Nat) (x : Rn) (h : l[k]? = some x) (hf : x.fix = x) : fixed l (k + 1) = fixed l k := by
  rw [fixed_succ l k x h, hf]
  apply List.ext_getElem?
  intro j
  rw [List.getElem?_set]
  split
  · rename_i e; subst e
    rw [fixed_get l k x h]
    split <;> simp_all [fixed_len]
  · rfl

set_option maxRecDepth 100000 in
set_option maxHeartbeats 2000000 in
theorem runes_any (s : ByteArray) (w : World) (hs : s.size ≤ 4294967296) :
    Calls Tryz.prog 32 #[.string s, .int .i64 16385] w fun e w' => ∃ v, e = .returned v ∧ w'.ownsRow w.heap.size 89 5 v ((allRaw s).take 16385).length (rnFlat .i32 (((allRaw s).take 16385).map Rn.fix)) ∧ Below w.heap.size w w' := by
  have H0 : Hid (RunesRel s 29 89 w (.slice none 0 0) ((w.alloc (.cells #[.int .i64 1, .int .i64 1] 29)).iter s 0) [] 0 1 1) := by
    refine ⟨Nat.zero_le _, by simp, by omega, ?_, ?_, World.ownsRow_nil _ _ _ _, ?_, rfl, fun l x h => by simp at h⟩
    · have := World.iter_heap (w.alloc (.cells #[.int .i64 1, .int .i64 1] 29)) s 0
      simpa using this
    · show ((w.alloc _).iter s 0).heap[w.heap.size]? = _
      rw [(World.iter_extends (w.alloc (.cells #[.int .i64 1, .int .i64 1] 29)) s 0).block _ (by simp)]
      exact heap_alloc_new w _
    · exact ((Below.refl _ w).alloc (Nat.le_refl _) _).alloc (by simp) _
  go_enter Tryz.func32, Tryz.ntmps32
  go_wp2
  go_loopw [5, 7, 8, 9] (fun v _ _ _ wr => ∃ (pre : List Rn) (p : Nat) (line col : Int), RunesRel s 29 89 w v wr pre p line col) (fun _ _ _ _ wr => s.size - wr.iterPos (w.heap.size + 1))
  case atStart => exact ⟨[], 0, 1, 1, H0.out⟩
  case round =>
    obtain ⟨pre, p, line, col, R⟩ := hrel
    clear H0
    have HR := Lib.hid R
    obtain ⟨hp, hn, ⟨hl0, hl1, hl2, hl3⟩, hit, hpos, hown, hb, _, _⟩ := R
    have hpo : (wr.iterPos (w.heap.size + 1)) = p := by simp [World.iterPos, hit]
    have HPO := Lib.hid hpo; clear hpo
    by_cases hlt : p < s.size
    · have hnx := fun ty => Lib.run_next_any_at (P := Tryz.prog) wr (w.heap.size + 1) s p ty hit hlt
      have hit1 := Lib.iterAt_heap wr (w.heap.size + 1) s p (p + (Utf8.decode s p).2) hit
      have hown1 := ownsRow_iterAt hown (k := w.heap.size + 1) (by omega) s (p + (Utf8.decode s p).2)
      have hpos1 := hpos.iterAt (w.heap.size + 1) s (p + (Utf8.decode s p).2) (by omega)
      have hb1 := Lib.below_iterAt hb (k := w.heap.size + 1) (by omega) s (p + (Utf8.decode s p).2)
      have hdn := decN_pos s p
      have hdl := decN_le s p hlt
      have HD : Hid (decN s p = (Utf8.decode s p).2 ∧ rawR s p = ((Utf8.decode s p).1 : Int)) := ⟨rfl, rfl⟩
      obtain ⟨c0, c1, f0, f1⟩ := hpos1.facts
      rcases (show pre = [] ∨ ∃ pre0 x, pre = pre0 ++ [x] by rcases List.eq_nil_or_concat pre with h | ⟨a, b, h⟩ <;> simp_all) with rfl | ⟨pre0, x, rfl⟩
      · have hv : u5 = .slice none 0 0 ∨ ∃ g cap, u5 = .slice (some ⟨g, 0, none⟩) 0 cap := by
          rcases hown.2 with ⟨h, _⟩ | ⟨g, cap, cur, h, _⟩
          · exact .inl h
          · exact .inr ⟨g, cap, h⟩
        have HO1 := Lib.hid hown1
        have HI1 := Lib.hid hit1
        have HP1 := Lib.hid hpos1
        have HB1 := Lib.hid hb1
        have hlt1 : w.heap.size + 1 < (wr.iterAt (w.heap.size + 1) s (p + (Utf8.decode s p).2)).heap.size := (Array.getElem?_eq_some_iff.1 hit1).1
        have HL1 := Lib.hid hlt1
        clear hown hown1 hit hit1 hpos hpos1 hb hb1 hlt1
        simp only [List.length_nil] at *
        rcases hv with rfl | ⟨g, cap, rfl⟩
        · go_wp2_with (first | (at_builtin; refine app1 _ #[.int .i32 (Utf8.decode s p).1, .int .i64 p, .int .i64 s.size, .int .i64 line, .int .i64 col] rfl _ _ 66 rfl (w.heap.size + 2) 89 _ 5 40 Tryz.underlying66 info_rune rfl (by decide) (by decide) _ _ _ rfl (by exact HO1.out) rfl (by simp) rfl (by simp [Value.oneCell']) (by omega) (Nat.succ_le_of_lt HL1.out) ?_; intro v3 w3 hown3 hg3 hb3; have hpos3 := (HP1.out.below hb3 (by omega)).facts; obtain ⟨d0, d1, e0, e1⟩ := hpos3))
          refine (next_any line col _ _ hl0 (by omega) hl2 (by omega)).mono ?_
          rintro e w4 ⟨rfl, hb4⟩
          have hpos4 := (((HP1.out.below hb3 (by omega)).below hb4 (Nat.lt_of_lt_of_le (Nat.lt_of_succ_lt HL1.out) hb3.size))).facts
          obtain ⟨a0, a1, b0, b1⟩ := hpos4
          have HR' := RunesRel.next (pre := []) hlt (by simp) ⟨hl0, hl1, hl2, hl3⟩ HI1.out HB1.out HP1.out hown3 hb3 hb4 HR.out.eq
          have HRR := Lib.hid HR'
          clear HR' hown3 hg3 hb3 hb4 d0 d1 e0 e1
          go_wp2
          go_roundw
          case rel => exact ⟨_, _, _, _, HRR.out⟩
          case measure => exact iter_less HRR.out.it HPO.out (by omega) hdl
        · go_wp2_with (first | (at_builtin; refine app1 _ #[.int .i32 (Utf8.decode s p).1, .int .i64 p, .int .i64 s.size, .int .i64 line, .int .i64 col] rfl _ _ 66 rfl (w.heap.size + 2) 89 _ 5 40 Tryz.underlying66 info_rune rfl (by decide) (by decide) _ _ _ rfl (by exact HO1.out) rfl (by simp) rfl (by simp [Value.oneCell']) (by omega) (Nat.succ_le_of_lt HL1.out) ?_; intro v3 w3 hown3 hg3 hb3; have hpos3 := (HP1.out.below hb3 (by omega)).facts; obtain ⟨d0, d1, e0, e1⟩ := hpos3))
          refine (next_any line col _ _ hl0 (by omega) hl2 (by omega)).mono ?_
          rintro e w4 ⟨rfl, hb4⟩
          have hpos4 := (((HP1.out.below hb3 (by omega)).below hb4 (Nat.lt_of_lt_of_le (Nat.lt_of_succ_lt HL1.out) hb3.size))).facts
          obtain ⟨a0, a1, b0, b1⟩ := hpos4
          have HR' := RunesRel.next (pre := []) hlt (by simp) ⟨hl0, hl1, hl2, hl3⟩ HI1.out HB1.out HP1.out hown3 hb3 hb4 HR.out.eq
          have HRR := Lib.hid HR'
          clear HR' hown3 hg3 hb3 hb4 d0 d1 e0 e1
          go_wp2
          go_roundw
          case rel => exact ⟨_, _, _, _, HRR.out⟩
          case measure => exact iter_less HRR.out.it HPO.out (by omega) hdl
      · obtain ⟨g, cap, rfl, hg, hgs⟩ := owns_shape hown (by simp)
        obtain ⟨m, hm⟩ : ∃ m, m = pre0.length := ⟨_, rfl⟩
        have hm1 : (pre0 ++ [x]).length = m + 1 := by simp [hm]
        have hxp : x.to = p := HR.out.last _ _ rfl
        rw [openLast_snoc] at hown1
        have hfl : (rnFlat .i32 (pre0 ++ [{ x with to := s.size }])).set (m * 5 + 2) (.int .i64 p) = rnFlat .i32 (pre0 ++ [x]) := by
          have hx0 : (pre0 ++ [({ x with to := s.size } : Rn)])[m]? = some { x with to := s.size } := by simp [hm]
          rw [rnFlat_set .i32 _ m 2 _ x _ hx0 (by omega) (by simp [rnCells, hxp])]
          congr 1
          rw [hm]; simp
        rw [hm1] at hown1 hn ⊢
        have HM := Lib.hid hm1
        have hc := World.ownsRow.cellAt hown1 (m * 5 + 2) (by omega)
        have hf := World.ownsRow.frozenAt hown1 (m * 5 + 2)
        obtain ⟨u, hu⟩ : ∃ u, (rnFlat IntKind.i32 (pre0 ++ [{ x with to := s.size }]))[m * 5 + 2]? = some u := ⟨_, List.getElem?_eq_getElem (by have := hown1.1; omega)⟩
        rw [hu] at hc
        have hw2 := (World.ownsRow.stored hown1 (m * 5 + 2) (.int .i64 p)).1
        rw [hfl] at hw2
        have HO1 := Lib.hid hw2
        have HB1 : Hid (Below w.heap.size w ((wr.iterAt (w.heap.size + 1) s (p + (Utf8.decode s p).2)).setCell ⟨g, m * 5 + 2, none⟩ (.int .i64 p))) := hb1.setCell (by show w.heap.size ≤ g; omega) _
        have HI1 : Hid (((wr.iterAt (w.heap.size + 1) s (p + (Utf8.decode s p).2)).setCell ⟨g, m * 5 + 2, none⟩ (.int .i64 p)).heap[w.heap.size + 1]? = some (.stringIter s (p + (Utf8.decode s p).2))) := (Below.heap_setCell _ _ _ _ (by show w.heap.size + 1 ≠ g; omega)).trans hit1
        have HP1 : Hid (PosAt ((wr.iterAt (w.heap.size + 1) s (p + (Utf8.decode s p).2)).setCell ⟨g, m * 5 + 2, none⟩ (.int .i64 p)) w.heap.size 29 line col) := (Below.heap_setCell _ _ _ _ (by show w.heap.size ≠ g; omega)).trans hpos1
        have HL1 : Hid (w.heap.size + 1 < ((wr.iterAt (w.heap.size + 1) s (p + (Utf8.decode s p).2)).setCell ⟨g, m * 5 + 2, none⟩ (.int .i64 p)).heap.size) := (Array.getElem?_eq_some_iff.1 HI1.out).1
        clear hown hown1 hit hit1 hpos hpos1 hb hb1 hm hm1 hxp hfl hu hw2
        by_cases hmx : m + 1 < 16385
        · go_wp2_with (first | (at_builtin; refine app1 _ #[.int .i32 (Utf8.decode s p).1, .int .i64 p, .int .i64 s.size, .int .i64 line, .int .i64 col] rfl _ _ 66 rfl (w.heap.size + 2) 89 _ 5 40 Tryz.underlying66 info_rune rfl (by decide) (by decide) _ _ _ rfl (by exact HO1.out) rfl (by simp) rfl (by simp [Value.oneCell']) (by omega) (Nat.succ_le_of_lt HL1.out) ?_; intro v3 w3 hown3 hg3 hb3; have hpos3 := (HP1.out.below hb3 (by omega)).facts; obtain ⟨d0, d1, e0, e1⟩ := hpos3))
          refine (next_any line col _ _ hl0 (by omega) hl2 (by omega)).mono ?_
          rintro e w4 ⟨rfl, hb4⟩
          have hpos4 := (((HP1.out.below hb3 (by omega)).below hb4 (Nat.lt_of_lt_of_le (Nat.lt_of_succ_lt HL1.out) hb3.size))).facts
          obtain ⟨a0, a1, b0, b1⟩ := hpos4
          have HR' := RunesRel.next (pre := pre0 ++ [x]) hlt (by rw [HM.out]; exact hmx) ⟨hl0, hl1, hl2, hl3⟩ HI1.out HB1.out HP1.out (by rw [HM.out]; exact hown3) hb3 hb4 HR.out.eq
          have HRR := Lib.hid HR'
          clear HR' hown3 hg3 hb3 hb4 d0 d1 e0 e1
          go_wp2
          go_roundw
          case rel => exact ⟨_, _, _, _, HRR.out⟩
          case measure => exact iter_less HRR.out.it HPO.out (by omega) hdl
        · have HRow := HO1
          have HLow := HB1
          have HPre : Hid ((pre0 ++ [x]) = (allRaw s).take 16385) := by
            unfold Hid
            rw [HR.out.eq, List.take_append_of_le_length (by rw [HM.out]; omega), List.take_of_length_le (by rw [HM.out]; omega)]
          have HNL := HM
          have hmq : ((m : Int) + 1 == 16385) = true := by rw [beq_iff_eq]; omega
          clear hmx c0 c1 f0 f1 HP1 HI1 HL1
          obtain ⟨wo, rfl⟩ : ∃ wo : World, wo = wr := ⟨_, rfl⟩
          go_wp2
          go_loopw [10, 11, 47] (fun _ _ c wr => ∃ k : Nat, k ≤ m + 1 ∧ c = .int .i64 k ∧ wr.ownsRow (w.heap.size + 2) 89 5 (.slice (some ⟨g, 0, none⟩) (m + 1) cap) (m + 1) (rnFlat .i32 (fixed (pre0 ++ [x]) k)) ∧ Below w.heap.size w wr) (fun _ _ c _ => m + 1 - (intOf c).toNat)
          case atStart => exact ⟨0, Nat.zero_le _, rfl, by rw [show fixed (pre0 ++ [x]) 0 = pre0 ++ [x] by simp [fixed]]; exact HRow.out, HLow.out⟩
          case round =>
            obtain ⟨k, hk, rfl, hown2, hb2⟩ := hrel
            clear HRow HLow
            by_cases hlt2 : k < m + 1
            · obtain ⟨y, hy⟩ : ∃ y, (pre0 ++ [x])[k]? = some y := ⟨_, List.getElem?_eq_getElem (by rw [HNL.out]; exact hlt2)⟩
              have hy' := fixed_get (pre0 ++ [x]) k y hy
              have hym := allRaw_mem s y (List.mem_of_mem_take (HPre.out ▸ List.mem_of_getElem? hy))
              obtain ⟨hym1, hym2⟩ := hym
              obtain ⟨g', cap', hv, hg, hgs⟩ := owns_shape hown2 (by omega)
              simp only [Value.slice.injEq, Option.some.injEq, Addr.mk.injEq, true_and, and_true] at hv
              obtain ⟨rfl, rfl⟩ := hv
              have c0 := (World.ownsRow.cellAt hown2 (k * 5) (by omega)).trans (rnFlat_get .i32 _ k 0 y hy' (by omega))
              have c1 := (World.ownsRow.cellAt hown2 (k * 5 + 1) (by omega)).trans (rnFlat_get .i32 _ k 1 y hy' (by omega))
              have c2 := (World.ownsRow.cellAt hown2 (k * 5 + 2) (by omega)).trans (rnFlat_get .i32 _ k 2 y hy' (by omega))
              have c3 := (World.ownsRow.cellAt hown2 (k * 5 + 3) (by omega)).trans (rnFlat_get .i32 _ k 3 y hy' (by omega))
              have c4 := (World.ownsRow.cellAt hown2 (k * 5 + 4) (by omega)).trans (rnFlat_get .i32 _ k 4 y hy' (by omega))
              simp only [rnCells, List.getElem?_cons_zero, List.getElem?_cons_succ] at c0 c1 c2 c3 c4
              have f0 := World.ownsRow.frozenAt hown2 (k * 5)
              have hsz2 := hb2.size
              by_cases h1 : y.r = 65533 ∧ y.to = y.fr + 1
              · have hset := rnFlat_set .i32 (fixed (pre0 ++ [x]) k) k 0 y y.fix (.int .i32 (-1)) hy' (by omega) (by simp [rnCells, Rn.fix, h1])
                rw [← fixed_succ (pre0 ++ [x]) k y hy, Nat.add_zero] at hset
                have hst := (World.ownsRow.stored hown2 (k * 5) (.int .i32 (-1))).1
                rw [hset] at hst
                have HST := Lib.hid (And.intro hst (hb2.setCell (p := ⟨g, k * 5, none⟩) (by show w.heap.size ≤ g; omega) (.int .i32 (-1))))
                have t1 : (y.r == 65533) = true := by simp [h1.1]
                have t2 : (((y.to : Int) - (y.fr : Int)) == 1) = true := by rw [beq_iff_eq]; omega
                have HY := Lib.hid hy
                clear hset hst hown2 hb2 hy hy' h1
                go_wp2
                go_roundw
                case rel => exact ⟨k + 1, by omega, by go_num, HST.out.1.alloc _, HST.out.2.alloc (by simp; omega) _⟩
                case measure => simp [intOf]; omega
              · have hfx : y.fix = y := by unfold Rn.fix; rw [if_neg h1]
                have HS := Lib.hid (fixed_same (pre0 ++ [x]) k y hy hfx)
                have HO2 := Lib.hid (And.intro hown2 hb2)
                have hsplit : ((y.r == 65533) = false) ∨ ((y.r == 65533) = true ∧ (((y.to : Int) - (y.fr : Int)) == 1) = false) := by
                  by_cases h3 : y.r = 65533
                  · exact .inr ⟨by simp [h3], by rw [beq_eq_false_iff_ne]; intro h4; exact h1 ⟨h3, by omega⟩⟩
                  · exact .inl (by simp [h3])
                have HY := Lib.hid hy
                clear hown2 hb2 hy hy' h1 hfx
                rcases hsplit with t1 | ⟨t1, t2⟩
                all_goals
                  go_wp2
                  go_roundw
                  case rel => exact ⟨k + 1, by omega, by go_num, by rw [HS.out]; exact HO2.out.1.alloc _, HO2.out.2.alloc (by omega) _⟩
                  case measure => simp [intOf]; omega
            · obtain rfl : k = m + 1 := by omega
              have HF : Hid (fixed (pre0 ++ [x]) (m + 1) = ((allRaw s).take 16385).map Rn.fix) := by
                unfold Hid fixed
                rw [← HPre.out, List.take_of_length_le (by rw [HNL.out]; omega), List.drop_of_length_le (by rw [HNL.out]; omega), List.append_nil]
              have HN2 : Hid (((allRaw s).take 16385).length = m + 1) := by unfold Hid; rw [← HPre.out, HNL.out]
              rw [HF.out] at hown2
              have HO2 := Lib.hid (And.intro hown2 hb2)
              clear hown2 hb2
              go_wp2
              go_ret
              exact ⟨_, rfl, by rw [HN2.out]; exact owns_mono HO2.out.1 (by omega), HO2.out.2⟩
    · have hnx := fun ty => Lib.run_next_end_at (P := Tryz.prog) wr (w.heap.size + 1) s p ty hit hlt
      have hpe : p = s.size := by omega
      have hop : openLast s.size pre = pre := by
        rcases (show pre = [] ∨ ∃ pre0 x, pre = pre0 ++ [x] by rcases List.eq_nil_or_concat pre with h | ⟨a, b, h⟩ <;> simp_all) with rfl | ⟨pre0, x, rfl⟩
        · rfl
        · rw [openLast_snoc]
          have := HR.out.last _ _ rfl
          rw [← hpe, ← this]
      rw [hop] at hown
      have HPre : Hid (pre = (allRaw s).take 16385) := by
        unfold Hid
        rw [HR.out.eq, restG_nil _ _ _ _ _ hlt, List.append_nil, List.take_of_length_le hn]
      obtain ⟨ad, cap, rfl⟩ := owns_len hown
      obtain ⟨n, hn'⟩ : ∃ n, n = pre.length := ⟨_, rfl⟩
      rw [← hn'] at hown hn ⊢
      have HNL : Hid (pre.length = n) := hn'.symm
      have HRow := Lib.hid hown
      have HLow := Lib.hid hb
      clear hown hb hn' hop hpe hpos hit hl0 hl1 hl2 hl3
      obtain ⟨wo, rfl⟩ : ∃ wo : World, wo = wr := ⟨_, rfl⟩
      go_wp2
      go_loopw [10, 11, 47] (fun _ _ c wr => ∃ k : Nat, k ≤ n ∧ c = .int .i64 k ∧ wr.ownsRow (w.heap.size + 2) 89 5 (.slice ad n cap) n (rnFlat .i32 (fixed pre k)) ∧ Below w.heap.size w wr) (fun _ _ c _ => n - (intOf c).toNat)
      case atStart => exact ⟨0, Nat.zero_le _, rfl, by rw [show fixed pre 0 = pre by simp [fixed]]; exact HRow.out, HLow.out⟩
      case round =>
        obtain ⟨k, hk, rfl, hown2, hb2⟩ := hrel
        clear HRow HLow
        by_cases hlt2 : k < n
        · obtain ⟨y, hy⟩ : ∃ y, pre[k]? = some y := ⟨_, List.getElem?_eq_getElem (by rw [HNL.out]; exact hlt2)⟩
          have hy' := fixed_get pre k y hy
          have hym := allRaw_mem s y (List.mem_of_mem_take (HPre.out ▸ List.mem_of_getElem? hy))
          obtain ⟨hym1, hym2⟩ := hym
          obtain ⟨g, cap', hv, hg, hgs⟩ := owns_shape hown2 (by omega)
          simp only [Value.slice.injEq, true_and] at hv
          obtain ⟨rfl, rfl⟩ := hv
          have c0 := (World.ownsRow.cellAt hown2 (k * 5) (by omega)).trans (rnFlat_get .i32 _ k 0 y hy' (by omega))
          have c1 := (World.ownsRow.cellAt hown2 (k * 5 + 1) (by omega)).trans (rnFlat_get .i32 _ k 1 y hy' (by omega))
          have c2 := (World.ownsRow.cellAt hown2 (k * 5 + 2) (by omega)).trans (rnFlat_get .i32 _ k 2 y hy' (by omega))
          have c3 := (World.ownsRow.cellAt hown2 (k * 5 + 3) (by omega)).trans (rnFlat_get .i32 _ k 3 y hy' (by omega))
          have c4 := (World.ownsRow.cellAt hown2 (k * 5 + 4) (by omega)).trans (rnFlat_get .i32 _ k 4 y hy' (by omega))
          simp only [rnCells, List.getElem?_cons_zero, List.getElem?_cons_succ] at c0 c1 c2 c3 c4
          have f0 := World.ownsRow.frozenAt hown2 (k * 5)
          have hsz2 := hb2.size
          by_cases h1 : y.r = 65533 ∧ y.to = y.fr + 1
          · have hset := rnFlat_set .i32 (fixed pre k) k 0 y y.fix (.int .i32 (-1)) hy' (by omega) (by simp [rnCells, Rn.fix, h1])
            rw [← fixed_succ pre k y hy, Nat.add_zero] at hset
            have hst := (World.ownsRow.stored hown2 (k * 5) (.int .i32 (-1))).1
            rw [hset] at hst
            have HST := Lib.hid (And.intro hst (hb2.setCell (p := ⟨g, k * 5, none⟩) (by show w.heap.size ≤ g; omega) (.int .i32 (-1))))
            have t1 : (y.r == 65533) = true := by simp [h1.1]
            have t2 : (((y.to : Int) - (y.fr : Int)) == 1) = true := by rw [beq_iff_eq]; omega
            have HY := Lib.hid hy
            clear hset hst hown2 hb2 hy hy' h1
            go_wp2
            go_roundw
            case rel => exact ⟨k + 1, by omega, by go_num, HST.out.1.alloc _, HST.out.2.alloc (by simp; omega) _⟩
            case measure => simp [intOf]; omega
          · have hfx : y.fix = y := by unfold Rn.fix; rw [if_neg h1]
            have HS := Lib.hid (fixed_same pre k y hy hfx)
            have HO2 := Lib.hid (And.intro hown2 hb2)
            have hsplit : ((y.r == 65533) = false) ∨ ((y.r == 65533) = true ∧ (((y.to : Int) - (y.fr : Int)) == 1) = false) := by
              by_cases h3 : y.r = 65533
              · exact .inr ⟨by simp [h3], by rw [beq_eq_false_iff_ne]; intro h4; exact h1 ⟨h3, by omega⟩⟩
              · exact .inl (by simp [h3])
            have HY := Lib.hid hy
            clear hown2 hb2 hy hy' h1 hfx
            rcases hsplit with t1 | ⟨t1, t2⟩
            all_goals
              go_wp2
              go_roundw
              case rel => exact ⟨k + 1, by omega, by go_num, by rw [HS.out]; exact HO2.out.1.alloc _, HO2.out.2.alloc (by omega) _⟩
              case measure => simp [intOf]; omega
        · obtain rfl : n = k := by omega
          have HF : Hid (fixed pre n = ((allRaw s).take 16385).map Rn.fix) := by
            unfold Hid fixed
            rw [← HPre.out, List.take_of_length_le (by rw [HNL.out]; omega), List.drop_of_length_le (by rw [HNL.out]; omega), List.append_nil]
          have HN2 : Hid (((allRaw s).take 16385).length = n) := by unfold Hid; rw [← HPre.out, HNL.out]
          rw [HF.out] at hown2
          have HO2 := Lib.hid (And.intro hown2 hb2)
          clear hown2 hb2
          go_wp2
          go_ret
          exact ⟨_, rfl, by rw [HN2.out]; exact owns_mono HO2.out.1 (by omega), HO2.out.2⟩

end Go.Proofs.YthhjepgcbfmfeaaGreatDoor
