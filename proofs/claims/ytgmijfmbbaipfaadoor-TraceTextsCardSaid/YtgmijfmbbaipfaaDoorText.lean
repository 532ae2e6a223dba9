/- Contracts of package text: the runes of a text, and their places; for texts of at most 2 to the 40th bytes. -/
import Derived.Test.YtgmijfmbbaipfaaDoorKit
import Derived.Test.YtgmijfmbbaipfaaDoorRunesPlain
import Derived.Lib.OthersKept
namespace Go.Proofs.YtgmijfmbbaipfaaDoor
open Go.RowKit

/-- a place in a block of its own -/
def PosAt (w : World) (b : Nat) (t : TypeId) (line col : Int) : Prop := w.heap[b]? = some (.cells #[.int .i64 line, .int .i64 col] t (0, 0))
theorem PosAt.facts {w : World} {b : Nat} {t : TypeId} {line col : Int} (h : PosAt w b t line col) :
    w.cell? ⟨b, 0, none⟩ = some (.int .i64 line) ∧ w.cell? ⟨b, 1, none⟩ = some (.int .i64 col) ∧ w.frozen? ⟨b, 0, none⟩ = false ∧ w.frozen? ⟨b, 1, none⟩ = false := by
  unfold PosAt at h
  refine ⟨?_, ?_, ?_, ?_⟩
  · simp [World.cell?, h]
  · simp [World.cell?, h]
  · simp [World.frozen?, h]
  · simp [World.frozen?, h]
theorem PosAt.iterAt {w : World} {b : Nat} {t : TypeId} {line col : Int} (h : PosAt w b t line col) (k : Nat) (s : ByteArray) (p : Nat) (hk : b ≠ k) : PosAt (w.iterAt k s p) b t line col := (Lib.iterAt_other w k b s p hk).trans h

theorem PosAt.below {w w' : World} {b : Nat} {t : TypeId} {line col : Int} (h : PosAt w b t line col) {B : Nat} (hb : Below B w w') (hB : b < B) : PosAt w' b t line col := (hb.block b hB).trans h
theorem PosAt.lt {w : World} {b : Nat} {t : TypeId} {line col : Int} (h : PosAt w b t line col) : b < w.heap.size := (Array.getElem?_eq_some_iff.1 h).1
theorem PosAt.stored {w : World} {b : Nat} {t : TypeId} {line col : Int} (h : PosAt w b t line col) (l' c' : Int) : PosAt ((w.setCell ⟨b, 0, none⟩ (.int .i64 l')).setCell ⟨b, 1, none⟩ (.int .i64 c')) b t l' c' := by
  have h1 := heap_setCell_same w b 0 _ t (.int .i64 l') h
  have h2 := heap_setCell_same _ b 1 _ t (.int .i64 c') h1
  exact h2

/-- a list but for the end of its last rune, which is another -/
def openLast (e : Nat) (l : List Rn) : List Rn :=
  match l.reverse with
  | [] => []
  | x :: r => r.reverse ++ [{ x with to := e }]
theorem openLast_snoc (e : Nat) (l : List Rn) (x : Rn) : openLast e (l ++ [x]) = l ++ [{ x with to := e }] := by simp [openLast]

/-- what a round of the loop over runes leaves -/
structure RunesRel (s : ByteArray) (t tr : TypeId) (w : World) (v : Value) (wr : World) (pre : List Rn) (p : Nat) (line col : Int) : Prop where
  hp : p ≤ s.size
  hn : pre.length ≤ 16385
  hl : 0 ≤ line ∧ line ≤ p + 1 ∧ 0 ≤ col ∧ col ≤ p + 1
  it : wr.heap[w.heap.size + 1]? = some (.stringIter s p)
  pos : PosAt wr w.heap.size t line col
  own : wr.ownsRow (w.heap.size + 2) tr 5 v pre.length (rnFlat .i32 (openLast s.size pre))
  low : Below w.heap.size w wr
  eq : allRaw s = pre ++ restG (rawR s) s p line col
  last : ∀ l x, pre = l ++ [x] → x.to = p

theorem RunesRel.next {s : ByteArray} {t tr : TypeId} {w W2 w3 w4 : World} {v3 : Value} {pre : List Rn} {p : Nat} {line col : Int} (hlt : p < s.size) (hn : pre.length < 16385)
    (hl : 0 ≤ line ∧ line ≤ p + 1 ∧ 0 ≤ col ∧ col ≤ p + 1) (it2 : W2.heap[w.heap.size + 1]? = some (.stringIter s (p + decN s p))) (low2 : Below w.heap.size w W2)
    (pos2 : PosAt W2 w.heap.size t line col) (own3 : w3.ownsRow (w.heap.size + 2) tr 5 v3 (pre.length + 1) (rnFlat .i32 pre ++ [.int .i32 (rawR s p), .int .i64 p, .int .i64 s.size, .int .i64 line, .int .i64 col])) (hb3 : Below (w.heap.size + 2) W2 w3)
    (hb4 : Below w3.heap.size w3 w4) (eq : allRaw s = pre ++ restG (rawR s) s p line col) :
    RunesRel s t tr w v3 ((w4.setCell ⟨w.heap.size, 0, none⟩ (.int .i64 (nextLine (rawR s p) line))).setCell ⟨w.heap.size, 1, none⟩ (.int .i64 (nextCol (rawR s p) col)))
      (pre ++ [⟨rawR s p, p, p + decN s p, line, col⟩]) (p + decN s p) (nextLine (rawR s p) line) (nextCol (rawR s p) col) := by
  have hd := decN_pos s p
  have hd' := decN_le s p hlt
  have hsz := (Array.getElem?_eq_some_iff.1 it2).1
  have hsz3 : W2.heap.size ≤ w3.heap.size := hb3.size
  have pos4 : PosAt w4 w.heap.size t line col := (pos2.below hb3 (by omega)).below hb4 (by omega)
  refine ⟨hd', by simp; omega, ?_, ?_, pos4.stored _ _, ?_, ?_, ?_, ?_⟩
  · obtain ⟨a, b, c, d⟩ := hl
    unfold nextLine nextCol
    refine ⟨?_, ?_, ?_, ?_⟩ <;> split <;> omega
  · rw [Below.heap_setCell _ _ _ _ (by show w.heap.size + 1 ≠ w.heap.size; omega), Below.heap_setCell _ _ _ _ (by show w.heap.size + 1 ≠ w.heap.size; omega), hb4.block _ (by omega), hb3.block _ (by omega)]
    exact it2
  · rw [openLast_snoc, rnFlat_snoc]
    have o4 := owns_below own3 hb4
    have o5 := ownsRow_setCell_below (ownsRow_setCell_below o4 (a := ⟨w.heap.size, 0, none⟩) (by show w.heap.size < w.heap.size + 2; omega) (.int .i64 (nextLine (rawR s p) line))) (a := ⟨w.heap.size, 1, none⟩) (by show w.heap.size < w.heap.size + 2; omega) (.int .i64 (nextCol (rawR s p) col))
    rw [List.length_append, List.length_cons, List.length_nil]
    exact o5
  · have l3 : Below w.heap.size w w3 := low2.trans (hb3.mono (by omega))
    have l4 : Below w.heap.size w w4 := l3.trans (hb4.mono (by omega))
    exact (l4.setCell (p := ⟨w.heap.size, 0, none⟩) (Nat.le_refl _) _).setCell (p := ⟨w.heap.size, 1, none⟩) (Nat.le_refl _) _
  · rw [eq, restG_cons _ _ _ _ _ hlt, List.append_assoc]; rfl
  · intro l x h
    have := List.append_inj' h rfl
    have := List.cons.inj this.2
    rw [← this.1]

theorem iter_less {s : ByteArray} {k p q : Nat} {W wr : World} (h : W.heap[k]? = some (.stringIter s q)) (h' : wr.iterPos k = p) (h1 : p < q) (h2 : q ≤ s.size) : s.size - W.iterPos k < s.size - wr.iterPos k := by
  have : W.iterPos k = q := by simp [World.iterPos, h]
  omega

theorem runesAt_mem (g : Nat → Int) (s : ByteArray) (k p : Nat) (line col : Int) (x : Rn) (h : x ∈ runesAt g s k p line col) : x.fr < x.to ∧ x.to ≤ s.size ∧ p ≤ x.fr := by
  induction k generalizing p line col with
  | zero => simp [runesAt] at h
  | succ k ih =>
    simp only [runesAt] at h
    split at h
    · rename_i hp
      have h1 := decN_pos s p
      have h2 := decN_le s p hp
      rcases List.mem_cons.1 h with rfl | h
      · exact ⟨by simp; omega, h2, Nat.le_refl _⟩
      · have := ih _ _ _ h; omega
    · simp at h
theorem allRaw_mem (s : ByteArray) (x : Rn) (h : x ∈ allRaw s) : x.fr < x.to ∧ x.to ≤ s.size := by
  have := runesAt_mem _ _ _ _ _ _ _ h; omega

/-- the second pass: what stands there when k runes are through -/
def fixed (l : List Rn) (k : Nat) : List Rn := (l.take k).map Rn.fix ++ l.drop k
theorem fixed_len (l : List Rn) (k : Nat) : (fixed l k).length = l.length := by simp [fixed]; omega
theorem fixed_get (l : List Rn) (k : Nat) (x : Rn) (h : l[k]? = some x) : (fixed l k)[k]? = some x := by
  have hk := (List.getElem?_eq_some_iff.1 h).1
  unfold fixed
  rw [List.getElem?_append_right (by simp; omega)]
  simp only [List.length_map, List.length_take, List.getElem?_drop]
  rw [show k + (k - min k l.length) = k by omega]; exact h
theorem fixed_succ (l : List Rn) (k : Nat) (x : Rn) (h : l[k]? = some x) : fixed l (k + 1) = (fixed l k).set k x.fix := by
  have hk := (List.getElem?_eq_some_iff.1 h).1
  unfold fixed
  rw [List.set_append_right _ _ (by simp; omega)]
  rw [List.take_add_one, h, List.map_append, List.append_assoc]
  congr 1
  rw [show k - (List.map Rn.fix (List.take k l)).length = 0 by simp; omega]
  have this : l[k] = x := by rw [List.getElem?_eq_getElem hk] at h; simpa using h
  have e : List.drop k l = x :: List.drop (k + 1) l := by rw [List.drop_eq_getElem_cons hk, this]
  rw [e]; rfl
theorem fixed_same (l : List Rn) (k : Nat) (x : Rn) (h : l[k]? = some x) (hf : x.fix = x) : fixed l (k + 1) = fixed l k := by
  rw [fixed_succ l k x h, hf]
  apply List.ext_getElem?
  intro j
  rw [List.getElem?_set]
  split
  · rename_i e; subst e
    rw [fixed_get l k x h]
    split <;> simp_all [fixed_len]
  · rfl

end Go.Proofs.YtgmijfmbbaipfaaDoor
