/- Plain: what the token reader does at a place: what is wrong, where it goes on, and the tokens then; and what its steps leave of memory. -/
import Derived.Test.YthbbbccefjemmaaDoorTok2
import Derived.Test.YthbbbccefjemmaaDoorTokVal2
import Derived.Test.YthbbbccefjemmaaDoorTokKnown
namespace Go.Proofs.YthbbbccefjemmaaDoor
open Go.RowKit

def frAt (L : List Rn) (i : Nat) : Nat := match L[i]? with | some x => x.fr | none => 0
def toAt (L : List Rn) (i : Nat) : Nat := match L[i]? with | some x => x.to | none => 0
def lineAt (L : List Rn) (i : Nat) : Int := match L[i]? with | some x => x.line | none => 0
def colAt (L : List Rn) (i : Nat) : Int := match L[i]? with | some x => x.col | none => 0
theorem at_some {L : List Rn} {i : Nat} {x : Rn} (h : L[i]? = some x) : rAt L i = x.r ∧ frAt L i = x.fr ∧ toAt L i = x.to ∧ lineAt L i = x.line ∧ colAt L i = x.col := by
  unfold rAt frAt toAt lineAt colAt; rw [h]; exact ⟨rfl, rfl, rfl, rfl, rfl⟩

/-- the text of so many runes from a place on -/
def txt (s : ByteArray) (L : List Rn) (i n : Nat) : ByteArray := s.extract (frAt L i) (toAt L (i + (n - 1)))

def wordErr (t : ByteArray) : Int := if knownB t then 0 else if hasGreatB t then 1 else if 16 < t.size then 3 else 0
def wordKind (t : ByteArray) : Int := if knownB t then 2 else 1
def restB (c : Int) : Bool := decide (c ≠ 10 ∧ c ≠ -1)

structure Res where
  er : Int
  line : Int
  col : Int
  i : Nat
  T : List Tk

def wordN (L : List Rn) (i : Nat) : Nat := rowE innerB L i - i
def numN (L : List Rn) (i : Nat) : Nat := rowE digitB L (i + 1) - i
def wordT (s : ByteArray) (L : List Rn) (i : Nat) (T : List Tk) : Res :=
  ⟨wordErr (txt s L i (wordN L i)), lineAt L i, colAt L i, i + wordN L i, T ++ [⟨wordKind (txt s L i (wordN L i)), txt s L i (wordN L i), 0, lineAt L i, colAt L i⟩]⟩
def numVal (s : ByteArray) (L : List Rn) (i : Nat) : Int × Bool := valN (txt s L i (numN L i)) (decide (rAt L i = 45))
def numbT (s : ByteArray) (L : List Rn) (i : Nat) (T : List Tk) : Res :=
  ⟨if (numVal s L i).2 then 0 else 2, lineAt L i, colAt L i, i + numN L i, T ++ [⟨3, txt s L i (numN L i), (numVal s L i).1, lineAt L i, colAt L i⟩]⟩
def signT (s : ByteArray) (L : List Rn) (i : Nat) (T : List Tk) : Res :=
  if signN (rAt L i) (rAt L (i + 1)) = 0 then ⟨1, lineAt L i, colAt L i, i, T⟩
  else ⟨0, 0, 0, i + signN (rAt L i) (rAt L (i + 1)), T ++ [⟨4, txt s L i (signN (rAt L i) (rAt L (i + 1))), 0, lineAt L i, colAt L i⟩]⟩
def restT (L : List Rn) (i : Nat) (T : List Tk) : Res :=
  if rowE restB L i < L.length ∧ rAt L (rowE restB L i) = -1 then ⟨1, lineAt L (rowE restB L i), colAt L (rowE restB L i), rowE restB L i, T⟩ else ⟨0, 0, 0, rowE restB L i, T⟩
def isNum (L : List Rn) (i : Nat) : Bool := digitB (rAt L i) || (decide (rAt L i = 45) && digitB (rAt L (i + 1)))
def tokT (s : ByteArray) (L : List Rn) (i : Nat) (T : List Tk) : Res :=
  if letterB (rAt L i) then wordT s L i T else if isNum L i then numbT s L i T else signT s L i T
def capT (L : List Rn) (i : Nat) (r : Res) : Res := if r.er ≠ 0 then r else if 4096 < r.T.length then { r with er := 3, line := lineAt L i, col := colAt L i } else r
def oneT (s : ByteArray) (L : List Rn) (i : Nat) (T : List Tk) : Res :=
  if blankB (rAt L i) then ⟨0, 0, 0, i + 1, T⟩ else if rAt L i = 35 then restT L i T else capT L i (tokT s L i T)
def runT (s : ByteArray) (L : List Rn) : Nat → Nat → List Tk → Res
  | 0, i, T => ⟨0, 0, 0, i, T⟩
  | k + 1, i, T => if i < L.length then (if (oneT s L i T).er ≠ 0 then oneT s L i T else runT s L k (oneT s L i T).i (oneT s L i T).T) else ⟨0, 0, 0, i, T⟩

/-- a fault as a value: nothing is wrong, or what and where -/
def faultV (er line col : Int) : Value := if er = 0 then .agg #[.int .i64 0, .int .i64 0, .int .i64 0] else .agg #[.int .i64 er, .int .i64 line, .int .i64 col]
theorem faultV_ok (l c : Int) : faultV 0 l c = .agg #[.int .i64 0, .int .i64 0, .int .i64 0] := rfl
theorem faultV_no {er l c : Int} (h : er ≠ 0) : faultV er l c = .agg #[.int .i64 er, .int .i64 l, .int .i64 c] := if_neg h

/-- what a step leaves: it has answered what is wrong, and the reader is where it is to be -/
def Stepped (w : World) (B b : Nat) (s : ByteArray) (L : List Rn) (lv : Value) (r : Res) (e : Ending) (w' : World) : Prop :=
  e = .returned (faultV r.er r.line r.col) ∧ ∃ ov, Took w w' B b s L lv r.i ov r.T

/-- a fault in a block of its own -/
def FltAt (w : World) (b : Nat) (er line col : Int) : Prop := w.heap[b]? = some (.cells #[.int .i64 er, .int .i64 line, .int .i64 col] 28 (0, 0))
theorem FltAt.facts {w : World} {b : Nat} {er line col : Int} (h : FltAt w b er line col) :
    w.cell? ⟨b, 0, none⟩ = some (.int .i64 er) ∧ w.cell? ⟨b, 1, none⟩ = some (.int .i64 line) ∧ w.cell? ⟨b, 2, none⟩ = some (.int .i64 col) ∧ w.frozen? ⟨b, 0, none⟩ = false ∧ w.frozen? ⟨b, 1, none⟩ = false ∧ w.frozen? ⟨b, 2, none⟩ = false := by
  unfold FltAt at h
  refine ⟨?_, ?_, ?_, ?_, ?_, ?_⟩
  · simp [World.cell?, h]
  · simp [World.cell?, h]
  · simp [World.cell?, h]
  · simp [World.frozen?, h]
  · simp [World.frozen?, h]
  · simp [World.frozen?, h]
theorem FltAt.stored {w : World} {b : Nat} {er line col : Int} (h : FltAt w b er line col) (e' l' c' : Int) : FltAt (((w.setCell ⟨b, 0, none⟩ (.int .i64 e')).setCell ⟨b, 1, none⟩ (.int .i64 l')).setCell ⟨b, 2, none⟩ (.int .i64 c')) b e' l' c' := by
  have h1 := heap_setCell_same w b 0 _ _ (.int .i64 e') h
  have h2 := heap_setCell_same _ b 1 _ _ (.int .i64 l') h1
  have h3 := heap_setCell_same _ b 2 _ _ (.int .i64 c') h2
  exact h3
theorem FltAt.lt {w : World} {b : Nat} {er line col : Int} (h : FltAt w b er line col) : b < w.heap.size := (Array.getElem?_eq_some_iff.1 h).1
theorem FltAt.below {w w' : World} {b B : Nat} {er line col : Int} (h : FltAt w b er line col) (hb : Below B w w') (hB : b < B) : FltAt w' b er line col := (hb.block b hB).trans h
theorem FltAt.took {w w' : World} {B b k : Nat} {s : ByteArray} {L : List Rn} {lv : Value} {i : Nat} {ov : Value} {T : List Tk} {er line col : Int} (h : FltAt w k er line col) (ht : Took w w' B b s L lv i ov T) (hkb : k ≠ b) : FltAt w' k er line col :=
  ht.kept k _ h (fun e => hkb (Option.some.inj e)) (fun c fz e => by simp at e)
theorem FltAt.alloc {w : World} {k : Nat} {er line col : Int} (h : FltAt w k er line col) (o : Obj) : FltAt (w.alloc o) k er line col := (Below.heap_alloc _ _ _ h.lt).trans h
theorem FltAt.setOther {w : World} {k g j : Nat} {er line col : Int} (h : FltAt w k er line col) (hne : g ≠ k) (u : Value) : FltAt (w.setCell ⟨g, j, none⟩ u) k er line col := (Below.heap_setCell _ _ _ _ (by show k ≠ g; omega)).trans h
theorem FltAt.drewN {w : World} {k : Nat} {er line col : Int} (h : FltAt w k er line col) (n : Nat) : FltAt (w.drewN n) k er line col := h
theorem FltAt.ne_row {w : World} {k base sz n g cap : Nat} {e : TypeId} {er line col : Int} {xs : List Value} (h : FltAt w k er line col) (ho : w.ownsRow base e sz (.slice (some ⟨g, 0, none⟩) n cap) n xs) (hne : 28 ≠ e) : g ≠ k := by
  intro e'
  subst e'
  exact owns_ne_block ho h hne rfl
theorem FltAt.new (w : World) (er line col : Int) : FltAt (w.alloc (.cells #[.int .i64 er, .int .i64 line, .int .i64 col] 28)) w.heap.size er line col := heap_alloc_new w _

theorem Took.of_rd {w : World} {B b : Nat} {s : ByteArray} {L : List Rn} {lv : Value} {i : Nat} {ov : Value} {T : List Tk} (h : Rd w B b s L lv i ov T) : Took w w B b s L lv i ov T :=
  ⟨h, Below.refl _ _, Lib.OthersKept.refl _ _ _⟩
theorem kept_of_below {t : TypeId} {b : Option Nat} {w w' : World} (h : Below w.heap.size w w') : Lib.OthersKept t b w w' :=
  fun k _ hk _ _ => (h.block k (Array.getElem?_eq_some_iff.1 hk).1).trans hk
theorem Took.after {w w1 w' : World} {B b : Nat} {s : ByteArray} {L : List Rn} {lv : Value} {i : Nat} {ov : Value} {T : List Tk} (h : Took w1 w' B b s L lv i ov T) (hb : Below w.heap.size w w1) (hB : B ≤ w.heap.size) : Took w w' B b s L lv i ov T :=
  ⟨h.rd, (hb.mono hB).trans h.low, (kept_of_below hb).trans h.kept⟩
theorem Took.then {w w1 w' : World} {B b : Nat} {s : ByteArray} {L : List Rn} {lv : Value} {i : Nat} {ov : Value} {T : List Tk} (h : Took w w1 B b s L lv i ov T) (hb : Below w1.heap.size w1 w') (hB : B ≤ w.heap.size) : Took w w' B b s L lv i ov T :=
  ⟨h.rd.keep hb, h.low.trans (hb.mono (Nat.le_trans hB h.low.size)), h.kept.trans (kept_of_below hb)⟩

/-- a row of another type stands behind a store into a block that is none of its own -/
theorem owns_setCell {w : World} {base : Nat} {e t : TypeId} {sz : Nat} {v : Value} {n k : Nat} {xs : List Value} {cs : Array Value} {fr : Nat × Nat} (h : w.ownsRow base e sz v n xs) (hk : w.heap[k]? = some (.cells cs t fr)) (hne : t ≠ e) (j : Nat) (u : Value) :
    (w.setCell ⟨k, j, none⟩ u).ownsRow base e sz v n xs := by
  have hnb := owns_ne_block h hk hne
  refine ⟨h.1, ?_⟩
  rcases h.2 with hn | ⟨g, cap, cur, hv, hBg, hgg, r⟩
  · exact .inl hn
  · exact .inr ⟨g, cap, cur, hv, hBg, (Below.heap_setCell _ _ _ _ (by show g ≠ k; intro e'; exact hnb (by rw [hv, e']; rfl))).trans hgg, r⟩

/-- a store into a block that the step itself made, and that is neither the reader nor a row -/
theorem Took.setNew {w w' : World} {B b : Nat} {s : ByteArray} {L : List Rn} {lv : Value} {i : Nat} {ov : Value} {T : List Tk} (h : Took w w' B b s L lv i ov T) {k : Nat} (hk : w.heap.size ≤ k) (hb : b < w.heap.size) (hB : B ≤ w.heap.size)
    {cs : Array Value} {t : TypeId} {fr : Nat × Nat} (ho : w'.heap[k]? = some (.cells cs t fr)) (h1 : t ≠ 35) (h2 : t ≠ 59) (j : Nat) (u : Value) : Took w (w'.setCell ⟨k, j, none⟩ u) B b s L lv i ov T := by
  refine ⟨⟨?_, h.rd.low, owns_setCell h.rd.run ho h2 j u, owns_setCell h.rd.out ho h1 j u⟩, h.low.setCell (p := ⟨k, j, none⟩) (by show B ≤ k; omega) _, ?_⟩
  · rw [Below.heap_setCell _ _ _ _ (by show b ≠ k; omega)]; exact h.rd.blk
  · intro q o hq hqb hqo
    rw [Below.heap_setCell _ _ _ _ (by show q ≠ k; have := (Array.getElem?_eq_some_iff.1 hq).1; omega)]
    exact h.kept q o hq hqb hqo
theorem Took.stored {w w' : World} {B b : Nat} {s : ByteArray} {L : List Rn} {lv : Value} {i : Nat} {ov : Value} {T : List Tk} (h : Took w w' B b s L lv i ov T) {k : Nat} (hk : w.heap.size ≤ k) (hb : b < w.heap.size) (hB : B ≤ w.heap.size)
    {er line col : Int} (ho : FltAt w' k er line col) (e' l' c' : Int) : Took w (((w'.setCell ⟨k, 0, none⟩ (.int .i64 e')).setCell ⟨k, 1, none⟩ (.int .i64 l')).setCell ⟨k, 2, none⟩ (.int .i64 c')) B b s L lv i ov T := by
  have h1 := heap_setCell_same w' k 0 _ _ (.int .i64 e') ho
  have h2 := heap_setCell_same _ k 1 _ _ (.int .i64 l') h1
  exact ((h.setNew hk hb hB ho (by decide) (by decide) 0 _).setNew hk hb hB h1 (by decide) (by decide) 1 _).setNew hk hb hB h2 (by decide) (by decide) 2 _

theorem owns_setIn {w : World} {base : Nat} {e : TypeId} {sz n g cap : Nat} {xs : List Value} (h : w.ownsRow base e sz (.slice (some ⟨g, 0, none⟩) n cap) n xs) (j : Nat) (u : Value) (_hj : j < n * sz) :
    (w.setCell ⟨g, j, none⟩ u).ownsRow base e sz (.slice (some ⟨g, 0, none⟩) n cap) n (xs.set j u) := by
  refine ⟨by rw [List.length_set]; exact h.1, ?_⟩
  rcases h.2 with ⟨e, _⟩ | ⟨g', cap', cur, hv, hBg, hgg, a, b, c, d⟩
  · simp at e
  · simp only [Value.slice.injEq, Option.some.injEq, Addr.mk.injEq, true_and, and_true] at hv
    obtain ⟨rfl, rfl⟩ := hv
    refine .inr ⟨g, cap, cur.setIfInBounds j u, rfl, hBg, heap_setCell_same w g j cur e u hgg, a, b, by simpa using c, ?_⟩
    rw [← d, Array.toList_setIfInBounds, List.take_set]

/-- a store into the last token -/
theorem Took.setTok {w w' : World} {B b g cap : Nat} {s : ByteArray} {L : List Rn} {lv : Value} {i : Nat} {T : List Tk} {x y : Tk} {j : Nat} {u : Value} (h : Took w w' B b s L lv i (.slice (some ⟨g, 0, none⟩) (T.length + 1) cap) (T ++ [x]))
    (hj : j < 5) (hy : (tkCells x).set j u = tkCells y) : Took w (w'.setCell ⟨g, T.length * 5 + j, none⟩ u) B b s L lv i (.slice (some ⟨g, 0, none⟩) (T.length + 1) cap) (T ++ [y]) := by
  have ho := h.rd.out
  rw [show (T ++ [x]).length = T.length + 1 by simp] at ho
  have hgB := (ho.lt g rfl).1
  have hgg : ∃ cs, w'.heap[g]? = some (.cells cs 35 (0, 0)) := by
    rcases ho.2 with ⟨e, _⟩ | ⟨g', cap', cur, hv, _, hg, _⟩
    · simp at e
    · simp only [Value.slice.injEq, Option.some.injEq, Addr.mk.injEq, true_and, and_true] at hv
      obtain ⟨rfl, _⟩ := hv
      exact ⟨_, hg⟩
  obtain ⟨cs, hgg⟩ := hgg
  have hgb : g ≠ b := by
    intro e
    have := h.rd.blk
    rw [← e, hgg] at this
    simp at this
  refine ⟨⟨?_, h.rd.low, owns_setCell h.rd.run hgg (by decide) _ u, ?_⟩, h.low.setCell (p := ⟨g, T.length * 5 + j, none⟩) hgB _, ?_⟩
  · rw [Below.heap_setCell _ _ _ _ (by show b ≠ g; omega)]; exact h.rd.blk
  · rw [show (T ++ [y]).length = T.length + 1 by simp]
    rw [← tkFlat_last T j x y u hj hy]
    exact owns_setIn ho _ u (by omega)
  · intro q o hq hqb hqo
    rw [Below.heap_setCell _ _ _ _ (by show q ≠ g; intro e; subst e; have h9 := h.kept q o hq hqb hqo; rw [hgg] at h9; exact hqo _ _ (Option.some.inj h9).symm)]
    exact h.kept q o hq hqb hqo

theorem Took.last {w w' : World} {B b g cap : Nat} {s : ByteArray} {L : List Rn} {lv : Value} {i : Nat} {T : List Tk} {x : Tk} (h : Took w w' B b s L lv i (.slice (some ⟨g, 0, none⟩) (T.length + 1) cap) (T ++ [x])) :
    w'.cell? ⟨g, T.length * 5, none⟩ = some (.int .i64 x.kind) ∧ w'.cell? ⟨g, T.length * 5 + 1, none⟩ = some (.string x.text) ∧ w'.cell? ⟨g, T.length * 5 + 2, none⟩ = some (.int .i64 x.num) ∧
      w'.frozen? ⟨g, T.length * 5, none⟩ = false ∧ w'.frozen? ⟨g, T.length * 5 + 2, none⟩ = false ∧ g < w'.heap.size ∧ ∀ k er l c, FltAt w' k er l c → g ≠ k := by
  have ho := h.rd.out
  rw [List.length_append, List.length_singleton] at ho
  have hx : (T ++ [x])[T.length]? = some x := by simp
  exact ⟨(World.ownsRow.cellAt ho (T.length * 5) (by omega)).trans (tkFlat_get _ T.length 0 x hx (by omega)), (World.ownsRow.cellAt ho (T.length * 5 + 1) (by omega)).trans (tkFlat_get _ T.length 1 x hx (by omega)),
    (World.ownsRow.cellAt ho (T.length * 5 + 2) (by omega)).trans (tkFlat_get _ T.length 2 x hx (by omega)), World.ownsRow.frozenAt ho _, World.ownsRow.frozenAt ho _, (ho.lt g rfl).2, fun k _ _ _ hf => hf.ne_row ho (by decide)⟩

end Go.Proofs.YthbbbccefjemmaaDoor
