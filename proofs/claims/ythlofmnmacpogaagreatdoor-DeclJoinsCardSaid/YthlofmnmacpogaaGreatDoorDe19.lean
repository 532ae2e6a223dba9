/- Plain: what the token reader does at a place: what is wrong, where it goes on, and the tokens then; and what its steps leave of memory. Contract of the token reader's word. Contract of the token reader's number. Plain: which two runes are a sign, as token finds it in a text of signs. -/
import Derived.Test.YthlofmnmacpogaaGreatDoorDe15
import Derived.Test.YthlofmnmacpogaaGreatDoorDe18
import Derived.Deep.RegionWith
import Derived.Test.YthlofmnmacpogaaGreatDoorDe17
import Derived.Lib.IndexLaws
import Derived.Lib.Strings
import Derived.Lib.IndexMore

namespace Go.Proofs.YthlofmnmacpogaaGreatDoor
open Go.RowKit

def frAt (L : List Rn) (i : Nat) : Nat := match L[i]? with | some x => x.fr | none => 0
def toAt (L : List Rn) (i : Nat) : Nat := match L[i]? with | some x => x.to | none => 0
def lineAt (L : List Rn) (i : Nat) : Int := match L[i]? with | some x => x.line | none => 0
def colAt (L : List Rn) (i : Nat) : Int := match L[i]? with | some x => x.col | none => 0
theorem at_some {L : List Rn} {i : Nat} {x : Rn} (h : L[i]? = some x) : rAt L i = x.r ∧ frAt L i = x.fr ∧ toAt L i = x.to ∧ lineAt L i = x.line ∧ colAt L i = x.col := by
  unfold rAt frAt toAt lineAt colAt; rw [h]; exact ⟨rfl, rfl, rfl, rfl, rfl⟩

/-- the text of so many runes from a place on -/
def txt (s : ByteArray) (L : List Rn) (i n : Nat) : ByteArray := s.extract (frAt L i) (toAt L (i + (n - 1)))

def wordErr (t : ByteArray) : Int := if knownB t then 0 else if hasGreatB t then 1 else if 16 < t.size then 3 else 0
def wordKind (t : ByteArray) : Int := if knownB t then 2 else 1
def restB (c : Int) : Bool := decide (c ≠ 10 ∧ c ≠ -1)

structure Res where
  er : Int
  line : Int
  col : Int
  i : Nat
  T : List Tk

def wordN (L : List Rn) (i : Nat) : Nat := rowE innerB L i - i
def numN (L : List Rn) (i : Nat) : Nat := rowE digitB L (i + 1) - i
def wordT (s : ByteArray) (L : List Rn) (i : Nat) (T : List Tk) : Res :=
  ⟨wordErr (txt s L i (wordN L i)), lineAt L i, colAt L i, i + wordN L i, T ++ [⟨wordKind (txt s L i (wordN L i)), txt s L i (wordN L i), 0, lineAt L i, colAt L i⟩]⟩
def numVal (s : ByteArray) (L : List Rn) (i : Nat) : Int × Bool := valN (txt s L i (numN L i)) (decide (rAt L i = 45))
def numbT (s : ByteArray) (L : List Rn) (i : Nat) (T : List Tk) : Res :=
  ⟨if (numVal s L i).2 then 0 else 2, lineAt L i, colAt L i, i + numN L i, T ++ [⟨3, txt s L i (numN L i), (numVal s L i).1, lineAt L i, colAt L i⟩]⟩
def signT (s : ByteArray) (L : List Rn) (i : Nat) (T : List Tk) : Res :=
  if signN (rAt L i) (rAt L (i + 1)) = 0 then ⟨1, lineAt L i, colAt L i, i, T⟩
  else ⟨0, 0, 0, i + signN (rAt L i) (rAt L (i + 1)), T ++ [⟨4, txt s L i (signN (rAt L i) (rAt L (i + 1))), 0, lineAt L i, colAt L i⟩]⟩
def restT (L : List Rn) (i : Nat) (T : List Tk) : Res :=
  if rowE restB L i < L.length ∧ rAt L (rowE restB L i) = -1 then ⟨1, lineAt L (rowE restB L i), colAt L (rowE restB L i), rowE restB L i, T⟩ else ⟨0, 0, 0, rowE restB L i, T⟩
def isNum (L : List Rn) (i : Nat) : Bool := digitB (rAt L i) || (decide (rAt L i = 45) && digitB (rAt L (i + 1)))
def tokT (s : ByteArray) (L : List Rn) (i : Nat) (T : List Tk) : Res :=
  if letterB (rAt L i) then wordT s L i T else if isNum L i then numbT s L i T else signT s L i T
def capT (L : List Rn) (i : Nat) (r : Res) : Res := if r.er ≠ 0 then r else if 4096 < r.T.length then { r with er := 3, line := lineAt L i, col := colAt L i } else r
def oneT (s : ByteArray) (L : List Rn) (i : Nat) (T : List Tk) : Res :=
  if blankB (rAt L i) then ⟨0, 0, 0, i + 1, T⟩ else if rAt L i = 35 then restT L i T else capT L i (tokT s L i T)
def runT (s : ByteArray) (L : List Rn) : Nat → Nat → List Tk → Res
  | 0, i, T => ⟨0, 0, 0, i, T⟩
  | k + 1, i, T => if i < L.length then (if (oneT s L i T).er ≠ 0 then oneT s L i T else runT s L k (oneT s L i T).i (oneT s L i T).T) else ⟨0, 0, 0, i, T⟩

/-- a fault as a value: nothing is wrong, or what and where -/
def faultV (er line col : Int) : Value := if er = 0 then .agg #[.int .i64 0, .int .i64 0, .int .i64 0] else .agg #[.int .i64 er, .int .i64 line, .int .i64 col]
theorem faultV_ok (l c : Int) : faultV 0 l c = .agg #[.int .i64 0, .int .i64 0, .int .i64 0] := rfl
theorem faultV_no {er l c : Int} (h : er ≠ 0) : faultV er l c = .agg #[.int .i64 er, .int .i64 l, .int .i64 c] := if_neg h

/-- what a step leaves: it has answered what is wrong, and the reader is where it is to be -/
def Stepped (w : World) (B b : Nat) (s : ByteArray) (L : List Rn) (lv : Value) (r : Res) (e : Ending) (w' : World) : Prop :=
  e = .returned (faultV r.er r.line r.col) ∧ ∃ ov, Took w w' B b s L lv r.i ov r.T

/-- a fault in a block of its own -/
def FltAt (w : World) (b : Nat) (er line col : Int) : Prop := w.heap[b]? = some (.cells #[.int .i64 er, .int .i64 line, .int .i64 col] 28 (0, 0))
theorem FltAt.facts {w : World} {b : Nat} {er line col : Int} (h : FltAt w b er line col) :
    w.cell? ⟨b, 0, none⟩ = some (.int .i64 er) ∧ w.cell? ⟨b, 1, none⟩ = some (.int .i64 line) ∧ w.cell? ⟨b, 2, none⟩ = some (.int .i64 col) ∧ w.frozen? ⟨b, 0, none⟩ = false ∧ w.frozen? ⟨b, 1, none⟩ = false ∧ w.frozen? ⟨b, 2, none⟩ = false := by
  unfold FltAt at h
  refine ⟨?_, ?_, ?_, ?_, ?_, ?_⟩
  · simp [World.cell?, h]
  · simp [World.cell?, h]
  · simp [World.cell?, h]
  · simp [World.frozen?, h]
  · simp [World.frozen?, h]
  · simp [World.frozen?, h]
theorem FltAt.stored {w : World} {b : Nat} {er line col : Int} (h : FltAt w b er line col) (e' l' c' : Int) : FltAt (((w.setCell ⟨b, 0, none⟩ (.int .i64 e')).setCell ⟨b, 1, none⟩ (.int .i64 l')).setCell ⟨b, 2, none⟩ (.int .i64 c')) b e' l' c' := by
  have h1 := heap_setCell_same w b 0 _ _ (.int .i64 e') h
  have h2 := heap_setCell_same _ b 1 _ _ (.int .i64 l') h1
  have h3 := heap_setCell_same _ b 2 _ _ (.int .i64 c') h2
  exact h3
theorem FltAt.lt {w : World} {b : Nat} {er line col : Int} (h : FltAt w b er line col) : b < w.heap.size := (Array.getElem?_eq_some_iff.1 h).1
theorem FltAt.below {w w' : World} {b B : Nat} {er line col : Int} (h : FltAt w b er line col) (hb : Below B w w') (hB : b < B) : FltAt w' b er line col := (hb.block b hB).trans h
theorem FltAt.took {w w' : World} {B b k : Nat} {s : ByteArray} {L : List Rn} {lv : Value} {i : Nat} {ov : Value} {T : List Tk} {er line col : Int} (h : FltAt w k er line col) (ht : Took w w' B b s L lv i ov T) (hkb : k ≠ b) : FltAt w' k er line col :=
  ht.kept k _ h (fun e => hkb (Option.some.inj e)) (fun c fz e => by simp at e)
theorem FltAt.alloc {w : World} {k : Nat} {er line col : Int} (h : FltAt w k er line col) (o : Obj) : FltAt (w.alloc o) k er line col := (Below.heap_alloc _ _ _ h.lt).trans h
theorem FltAt.setOther {w : World} {k g j : Nat} {er line col : Int} (h : FltAt w k er line col) (hne : g ≠ k) (u : Value) : FltAt (w.setCell ⟨g, j, none⟩ u) k er line col := (Below.heap_setCell _ _ _ _ (by show k ≠ g; omega)).trans h
theorem FltAt.drewN {w : World} {k : Nat} {er line col : Int} (h : FltAt w k er line col) (n : Nat) : FltAt (w.drewN n) k er line col := h
theorem FltAt.ne_row {w : World} {k base sz n g cap : Nat} {e : TypeId} {er line col : Int} {xs : List Value} (h : FltAt w k er line col) (ho : w.ownsRow base e sz (.slice (some ⟨g, 0, none⟩) n cap) n xs) (hne : 28 ≠ e) : g ≠ k := by
  intro e'
  subst e'
  exact owns_ne_block ho h hne rfl
theorem FltAt.new (w : World) (er line col : Int) : FltAt (w.alloc (.cells #[.int .i64 er, .int .i64 line, .int .i64 col] 28)) w.heap.size er line col := heap_alloc_new w _

theorem Took.of_rd {w : World} {B b : Nat} {s : ByteArray} {L : List Rn} {lv : Value} {i : Nat} {ov : Value} {T : List Tk} (h : Rd w B b s L lv i ov T) : Took w w B b s L lv i ov T :=
  ⟨h, Below.refl _ _, Lib.OthersKept.refl _ _ _⟩
theorem kept_of_below {t : TypeId} {b : Option Nat} {w w' : World} (h : Below w.heap.size w w') : Lib.OthersKept t b w w' :=
  fun k _ hk _ _ => (h.block k (Array.getElem?_eq_some_iff.1 hk).1).trans hk
theorem Took.after {w w1 w' : World} {B b : Nat} {s : ByteArray} {L : List Rn} {lv : Value} {i : Nat} {ov : Value} {T : List Tk} (h : Took w1 w' B b s L lv i ov T) (hb : Below w.heap.size w w1) (hB : B ≤ w.heap.size) : Took w w' B b s L lv i ov T :=
  ⟨h.rd, (hb.mono hB).trans h.low, (kept_of_below hb).trans h.kept⟩
theorem Took.then {w w1 w' : World} {B b : Nat} {s : ByteArray} {L : List Rn} {lv : Value} {i : Nat} {ov : Value} {T : List Tk} (h : Took w w1 B b s L lv i ov T) (hb : Below w1.heap.size w1 w') (hB : B ≤ w.heap.size) : Took w w' B b s L lv i ov T :=
  ⟨h.rd.keep hb, h.low.trans (hb.mono (Nat.le_trans hB h.low.size)), h.kept.trans (kept_of_below hb)⟩

/-- a row of another type stands behind a store into a block that is none of its own -/
theorem owns_setCell {w : World} {base : Nat} {e t : TypeId} {sz : Nat} {v : Value} {n k : Nat} {xs : List Value} {cs : Array Value} {fr : Nat × Nat} (h : w.ownsRow base e sz v n xs) (hk : w.heap[k]? = some (.cells cs t fr)) (hne : t ≠ e) (j : Nat) (u : Value) :
    (w.setCell ⟨k, j, none⟩ u).ownsRow base e sz v n xs := by
  have hnb := owns_ne_block h hk hne
  refine ⟨h.1, ?_⟩
  rcases h.2 with hn | ⟨g, cap, cur, hv, hBg, hgg, r⟩
  · exact .inl hn
  · exact .inr ⟨g, cap, cur, hv, hBg, (Below.heap_setCell _ _ _ _ (by show g ≠ k; intro e'; exact hnb (by rw [hv, e']; rfl))).trans hgg, r⟩

/-- a store into a block that the step itself made, and that is neither the reader nor a row -/
theorem Took.setNew {w w' : World} {B b : Nat} {s : ByteArray} {L : List Rn} {lv : Value} {i : Nat} {ov : Value} {T : List Tk} (h : Took w w' B b s L lv i ov T) {k : Nat} (hk : w.heap.size ≤ k) (hb : b < w.heap.size) (hB : B ≤ w.heap.size)
    {cs : Array Value} {t : TypeId} {fr : Nat × Nat} (ho : w'.heap[k]? = some (.cells cs t fr)) (h1 : t ≠ 48) (h2 : t ≠ 96) (j : Nat) (u : Value) : Took w (w'.setCell ⟨k, j, none⟩ u) B b s L lv i ov T := by
  refine ⟨⟨?_, h.rd.low, owns_setCell h.rd.run ho h2 j u, owns_setCell h.rd.out ho h1 j u⟩, h.low.setCell (p := ⟨k, j, none⟩) (by show B ≤ k; omega) _, ?_⟩
  · rw [Below.heap_setCell _ _ _ _ (by show b ≠ k; omega)]; exact h.rd.blk
  · intro q o hq hqb hqo
    rw [Below.heap_setCell _ _ _ _ (by show q ≠ k; have := (Array.getElem?_eq_some_iff.1 hq).1; omega)]
    exact h.kept q o hq hqb hqo
theorem Took.stored {w w' : World} {B b : Nat} {s : ByteArray} {L : List Rn} {lv : Value} {i : Nat} {ov : Value} {T : List Tk} (h : Took w w' B b s L lv i ov T) {k : Nat} (hk : w.heap.size ≤ k) (hb : b < w.heap.size) (hB : B ≤ w.heap.size)
    {er line col : Int} (ho : FltAt w' k er line col) (e' l' c' : Int) : Took w (((w'.setCell ⟨k, 0, none⟩ (.int .i64 e')).setCell ⟨k, 1, none⟩ (.int .i64 l')).setCell ⟨k, 2, none⟩ (.int .i64 c')) B b s L lv i ov T := by
  have h1 := heap_setCell_same w' k 0 _ _ (.int .i64 e') ho
  have h2 := heap_setCell_same _ k 1 _ _ (.int .i64 l') h1
  exact ((h.setNew hk hb hB ho (by decide) (by decide) 0 _).setNew hk hb hB h1 (by decide) (by decide) 1 _).setNew hk hb hB h2 (by decide) (by decide) 2 _

theorem owns_setIn {w : World} {base : Nat} {e : TypeId} {sz n g cap : Nat} {xs : List Value} (h : w.ownsRow base e sz (.slice (some ⟨g, 0, none⟩) n cap) n xs) (j : Nat) (u : Value) (_hj : j < n * sz) :
    (w.setCell ⟨g, j, none⟩ u).ownsRow base e sz (.slice (some ⟨g, 0, none⟩) n cap) n (xs.set j u) := by
  refine ⟨by rw [List.length_set]; exact h.1, ?_⟩
  rcases h.2 with ⟨e, _⟩ | ⟨g', cap', cur, hv, hBg, hgg, a, b, c, d⟩
  · simp at e
  · simp only [Value.slice.injEq, Option.some.injEq, Addr.mk.injEq, true_and, and_true] at hv
    obtain ⟨rfl, rfl⟩ := hv
    refine .inr ⟨g, cap, cur.setIfInBounds j u, rfl, hBg, heap_setCell_same w g j cur e u hgg, a, b, by simpa using c, ?_⟩
    rw [← d, Array.toList_setIfInBounds, List.take_set]

/-- a store into the last token -/
theorem Took.setTok {w w' : World} {B b g cap : Nat} {s : ByteArray} {L : List Rn} {lv : Value} {i : Nat} {T : List Tk} {x y : Tk} {j : Nat} {u : Value} (h : Took w w' B b s L lv i (.slice (some ⟨g, 0, none⟩) (T.length + 1) cap) (T ++ [x]))
    (hj : j < 5) (hy : (tkCells x).set j u = tkCells y) : Took w (w'.setCell ⟨g, T.length * 5 + j, none⟩ u) B b s L lv i (.slice (some ⟨g, 0, none⟩) (T.length + 1) cap) (T ++ [y]) := by
  have ho := h.rd.out
  rw [show (T ++ [x]).length = T.length + 1 by simp] at ho
  have hgB := (ho.lt g rfl).1
  have hgg : ∃ cs, w'.heap[g]? = some (.cells cs 48 (0, 0)) := by
    rcases ho.2 with ⟨e, _⟩ | ⟨g', cap', cur, hv, _, hg, _⟩
    · simp at e
    · simp only [Value.slice.injEq, Option.some.injEq, Addr.mk.injEq, true_and, and_true] at hv
      obtain ⟨rfl, _⟩ := hv
      exact ⟨_, hg⟩
  obtain ⟨cs, hgg⟩ := hgg
  have hgb : g ≠ b := by
    intro e
    have := h.rd.blk
    rw [← e, hgg] at this
    simp at this
  refine ⟨⟨?_, h.rd.low, owns_setCell h.rd.run hgg (by decide) _ u, ?_⟩, h.low.setCell (p := ⟨g, T.length * 5 + j, none⟩) hgB _, ?_⟩
  · rw [Below.heap_setCell _ _ _ _ (by show b ≠ g; omega)]; exact h.rd.blk
  · rw [show (T ++ [y]).length = T.length + 1 by simp]
    rw [← tkFlat_last T j x y u hj hy]
    exact owns_setIn ho _ u (by omega)
  · intro q o hq hqb hqo
    rw [Below.heap_setCell _ _ _ _ (by show q ≠ g; intro e; subst e; have h9 := h.kept q o hq hqb hqo; rw [hgg] at h9; exact hqo _ _ (Option.some.inj h9).symm)]
    exact h.kept q o hq hqb hqo

theorem Took.last {w w' : World} {B b g cap : Nat} {s : ByteArray} {L : List Rn} {lv : Value} {i : Nat} {T : List Tk} {x : Tk} (h : Took w w' B b s L lv i (.slice (some ⟨g, 0, none⟩) (T.length + 1) cap) (T ++ [x])) :
    w'.cell? ⟨g, T.length * 5, none⟩ = some (.int .i64 x.kind) ∧ w'.cell? ⟨g, T.length * 5 + 1, none⟩ = some (.string x.text) ∧ w'.cell? ⟨g, T.length * 5 + 2, none⟩ = some (.int .i64 x.num) ∧
      w'.frozen? ⟨g, T.length * 5, none⟩ = false ∧ w'.frozen? ⟨g, T.length * 5 + 2, none⟩ = false ∧ g < w'.heap.size ∧ ∀ k er l c, FltAt w' k er l c → g ≠ k := by
  have ho := h.rd.out
  rw [List.length_append, List.length_singleton] at ho
  have hx : (T ++ [x])[T.length]? = some x := by simp
  exact ⟨(World.ownsRow.cellAt ho (T.length * 5) (by omega)).trans (tkFlat_get _ T.length 0 x hx (by omega)), (World.ownsRow.cellAt ho (T.length * 5 + 1) (by omega)).trans (tkFlat_get _ T.length 1 x hx (by omega)),
    (World.ownsRow.cellAt ho (T.length * 5 + 2) (by omega)).trans (tkFlat_get _ T.length 2 x hx (by omega)), World.ownsRow.frozenAt ho _, World.ownsRow.frozenAt ho _, (ho.lt g rfl).2, fun k _ _ _ hf => hf.ne_row ho (by decide)⟩

end Go.Proofs.YthlofmnmacpogaaGreatDoor

namespace Go.Proofs.YthlofmnmacpogaaGreatDoor
open Go.RowKit

theorem lowerB_same (b : UInt8) : Lib.lowerB b = b ↔ greatB (b.toNat : Int) = false := by
  have key : ∀ n : Fin 256, Lib.lowerB (UInt8.ofNat n.val) = UInt8.ofNat n.val ↔ greatB ((UInt8.ofNat n.val).toNat : Int) = false := by decide +kernel
  have := key ⟨b.toNat, b.toNat_lt⟩
  simpa using this
theorem lower_same (l : List UInt8) : (Lib.toLowerA l = l) ↔ l.any (fun b => greatB (b.toNat : Int)) = false := by
  unfold Lib.toLowerA
  induction l with
  | nil => simp
  | cons x r ih => rw [List.map_cons, List.cons.injEq, ih, lowerB_same, List.any_cons, Bool.or_eq_false_iff]

set_option maxHeartbeats 2000000 in
theorem word_any {w : World} {B b : Nat} {s : ByteArray} {L : List Rn} {lv : Value} {i : Nat} {ov : Value} {T : List Tk} (h : Rd w B b s L lv i ov T) (hm : MaxCell w) (hB0 : 0 < B) (hB : B ≤ w.heap.size) (hL : L.length ≤ 16385) (hT : T.length ≤ 100000) (hs : s.size ≤ 4294967200)
    (x y : Rn) (hx : L[i]? = some x) (hy : L[i + (wordN L i - 1)]? = some y) (hn : 1 ≤ wordN L i) (hxy : x.fr ≤ y.to) (hys : y.to ≤ s.size) (hasc : ∀ c ∈ (txt s L i (wordN L i)).data.toList, c.toNat < 128) :
    Calls Tryz.prog 57 #[.pointer (some ⟨b, 0, none⟩)] w (Stepped w B b s L lv (wordT s L i T)) := by
  have hi := (List.getElem?_eq_some_iff.1 hx).1
  obtain ⟨t, ht⟩ : ∃ t, txt s L i (wordN L i) = t := ⟨_, rfl⟩
  obtain ⟨n, hnn⟩ : ∃ n, wordN L i = n := ⟨_, rfl⟩
  have hR : rowE innerB L (i + 0) - i = n := hnn
  have hte : s.extract x.fr y.to = t := by rw [← ht]; unfold txt; rw [(at_some hx).2.1, (at_some hy).2.2.1]
  rw [ht] at hasc
  rw [hnn] at hn hy
  have hw : wordT s L i T = ⟨wordErr t, x.line, x.col, i + n, T ++ [⟨wordKind t, t, 0, x.line, x.col⟩]⟩ := by
    unfold wordT; rw [ht, hnn, (at_some hx).2.2.2.1, (at_some hx).2.2.2.2]
  have HW := Lib.hid hw
  have hts : t.size ≤ s.size := by rw [← hte, ByteArray.size_extract]; omega
  have HR := Lib.hid h
  have HI := Lib.hid (And.intro hR hte)
  have HM := Lib.hid hm
  have HX := Lib.hid (And.intro hx hy)
  have hbl := h.lt
  clear h hR hte hm hx hy hw
  go_enter Tryz.func57, Tryz.ntmps57
  go_wp2_with fail
  refine (row_innerB (HR.out.keep ((Below.refl _ _).alloc (Nat.le_refl _) _)) 0 hL (by omega) (by omega)).mono ?_
  rintro e w1 ⟨rfl, hb1⟩
  have HB1 := Lib.hid (((Below.refl _ w).alloc (Nat.le_refl _) _).trans (hb1.mono (by simp)))
  have HF1 := Lib.hid ((FltAt.new w 0 0 0).below hb1 (by simp))
  clear hb1
  rw [HI.out.1]
  go_wp2_with fail
  refine (fault_any (HR.out.keep HB1.out) 0 x HX.out.1 hL).mono ?_
  rintro e w2 ⟨rfl, hb2⟩
  have HB2 := Lib.hid (HB1.out.trans (hb2.mono HB1.out.size))
  have HF2 := Lib.hid (HF1.out.below hb2 HF1.out.lt)
  clear hb2 HB1 HF1
  go_wp2_with fail
  refine (take_any (HR.out.keep (HB2.out.alloc HB2.out.size _)) 1 n x y HX.out.1 HX.out.2 hn hL hT hxy hys (by have := HB2.out.size; simp; omega)).mono ?_
  rintro e w3 ⟨g3, cap3, rfl, hk⟩
  rw [HI.out.2] at hk
  have hfb := (FltAt.new w2 0 x.line x.col).took hk (by have := HB2.out.size; omega)
  have hfr := (HF2.out.alloc _).took hk (by omega)
  have HK := Lib.hid (hk.after (HB2.out.alloc HB2.out.size _) hB)
  obtain ⟨_, c1, _, f0, _, hgl, hgn⟩ := hk.last
  have hgb := hgn _ _ _ _ hfr
  clear hk HF2 hgn
  obtain ⟨a0, a1, a2, a3, a4, a5⟩ := hfr.facts
  obtain ⟨b0, b1, b2, b3, b4, b5⟩ := hfb.facts
  have HFR := Lib.hid hfr
  have HFB := Lib.hid hfb
  clear hfr hfb
  go_wp2_with fail
  refine (known_any t _ (HM.out.below HK.out.low hB0) (by omega)).mono ?_
  rintro e w' ⟨rfl, rfl⟩
  cases hkn : knownB t
  · have hq : (⟨(Lib.toLowerA t.data.toList).toArray⟩ : ByteArray) = t ↔ hasGreatB t = false := by
      unfold hasGreatB
      rw [← lower_same]
      exact ⟨fun e => by have := congrArg (fun q : ByteArray => q.data.toList) e; simpa using this, fun e => by rw [e]⟩
    have HN := Lib.hid hkn; clear hkn
    obtain ⟨tl, htl⟩ : ∃ tl : ByteArray, (⟨(Lib.toLowerA t.data.toList).toArray⟩ : ByteArray) = tl := ⟨_, rfl⟩
    rw [htl] at hq
    have HTL := Lib.hid htl; clear htl
    have HA := Lib.hid hasc; clear hasc
    go_wp2
    go_region_held3 (fun w' => w'.cell? ⟨g3, T.length * 5 + 1, none⟩ = some (.string t)) (first | assumption | go_keep)
      (first | (go_at_call 85; refine (Tryz.strings_ToLower_ascii t _ (by omega) (by intro j c hc; exact HA.out c (List.mem_of_getElem? hc))).mono ?_; rintro e w5 ⟨rfl, hb5⟩; rw [HTL.out]; have q5 := (hb5.cell (p := ⟨g3, T.length * 5 + 1, none⟩) hgl).trans c1))
    replace hb5 := ((Below.refl w3.heap.size w3).drew).trans hb5
    have HK5 := Lib.hid (HK.out.then hb5 hB)
    have hfr5 := HFR.out.below hb5 HFR.out.lt
    have hfb5 := HFB.out.below hb5 HFB.out.lt
    clear hb5 a0 a1 a2 a3 a4 a5 b0 b1 b2 b3 b4 b5
    obtain ⟨a0, a1, a2, a3, a4, a5⟩ := hfr5.facts
    obtain ⟨b0, b1, b2, b3, b4, b5⟩ := hfb5.facts
    have HKD : Hid (wordKind t = 1) := by unfold Hid wordKind; rw [HN.out]; rfl
    cases hg : hasGreatB t
    · have hte : (tl.toList == t.toList) = true := by rw [hq.2 hg]; simp
      rw [hte]
      clear hte
      by_cases h16 : 16 < t.size
      · have HE : Hid (wordErr t = 3) := by unfold Hid wordErr; rw [HN.out, hg]; simp [h16]
        have h16' : (16 : Int) < t.size := by omega
        clear hg hq h16
        have HK6 := Lib.hid (HK5.out.stored (Nat.le_refl _) hbl hB hfr5 3 x.line x.col)
        obtain ⟨e0, e1, e2, _, _, _⟩ := (hfr5.stored 3 x.line x.col).facts
        clear hfr5 hfb5
        go_wp2
        exact bodyPost_ret (v := .agg #[.int .i64 (3), .int .i64 (x.line), .int .i64 (x.col)]) (by simp [results, Tryz.results57, go_sem, e0, e1, e2]) rfl ⟨by rw [HW.out]; show _ = Ending.returned (faultV (wordErr t) _ _); rw [HE.out]; rfl, ⟨_, by rw [HW.out]; show Took _ _ _ _ _ _ _ _ _ (T ++ [⟨wordKind t, _, _, _, _⟩]); rw [HKD.out]; exact HK6.out⟩⟩
      · have HE : Hid (wordErr t = 0) := by unfold Hid wordErr; rw [HN.out, hg]; simp [h16]
        have h16' : (t.size : Int) ≤ 16 := by omega
        clear hg hq h16
        have HK6 := Lib.hid (HK5.out.stored (Nat.le_refl _) hbl hB hfr5 0 0 0)
        obtain ⟨e0, e1, e2, _, _, _⟩ := (hfr5.stored 0 0 0).facts
        clear hfr5 hfb5
        go_wp2
        exact bodyPost_ret (v := .agg #[.int .i64 (0), .int .i64 (0), .int .i64 (0)]) (by simp [results, Tryz.results57, go_sem, e0, e1, e2]) rfl ⟨by rw [HW.out]; show _ = Ending.returned (faultV (wordErr t) _ _); rw [HE.out]; rfl, ⟨_, by rw [HW.out]; show Took _ _ _ _ _ _ _ _ _ (T ++ [⟨wordKind t, _, _, _, _⟩]); rw [HKD.out]; exact HK6.out⟩⟩
    · have hte : (tl.toList == t.toList) = false := by
        rw [beq_bytes]
        exact decide_eq_false (fun e => by rw [hq.1 e] at hg; cases hg)
      rw [hte]
      clear hte
      have HE : Hid (wordErr t = 1) := by unfold Hid wordErr; rw [HN.out, hg]; rfl
      clear hg hq
      have HK6 := Lib.hid (HK5.out.stored (Nat.le_refl _) hbl hB hfr5 1 x.line x.col)
      obtain ⟨e0, e1, e2, _, _, _⟩ := (hfr5.stored 1 x.line x.col).facts
      clear hfr5 hfb5
      go_wp2
      exact bodyPost_ret (v := .agg #[.int .i64 (1), .int .i64 (x.line), .int .i64 (x.col)]) (by simp [results, Tryz.results57, go_sem, e0, e1, e2]) rfl ⟨by rw [HW.out]; show _ = Ending.returned (faultV (wordErr t) _ _); rw [HE.out]; rfl, ⟨_, by rw [HW.out]; show Took _ _ _ _ _ _ _ _ _ (T ++ [⟨wordKind t, _, _, _, _⟩]); rw [HKD.out]; exact HK6.out⟩⟩
  · have HN := Lib.hid hkn; clear hkn
    have HK2 := Lib.hid (HK.out.setTok (j := 0) (u := .int .i64 2) (y := ⟨2, t, 0, x.line, x.col⟩) (by omega) rfl)
    have hf2 := HFR.out.setOther (j := T.length * 5) hgb (.int .i64 2)
    obtain ⟨d0, d1, d2, d3, d4, d5⟩ := hf2.facts
    have HK3 := Lib.hid (HK2.out.stored (Nat.le_refl _) hbl hB hf2 0 0 0)
    have hf3 := (hf2.stored 0 0 0).facts
    obtain ⟨e0, e1, e2, _, _, _⟩ := hf3
    clear hf2
    go_wp2
    exact bodyPost_ret (v := .agg #[.int .i64 0, .int .i64 0, .int .i64 0]) (by simp [results, Tryz.results57, go_sem, e0, e1, e2]) rfl ⟨by rw [HW.out]; show _ = Ending.returned (faultV (wordErr t) _ _); rw [show wordErr t = 0 by unfold wordErr; rw [HN.out]; rfl]; rfl, ⟨_, by rw [HW.out]; show Took _ _ _ _ _ _ _ _ _ (T ++ [⟨wordKind t, _, _, _, _⟩]); rw [show wordKind t = 2 by unfold wordKind; rw [HN.out]; rfl]; exact HK3.out⟩⟩

end Go.Proofs.YthlofmnmacpogaaGreatDoor

namespace Go.Proofs.YthlofmnmacpogaaGreatDoor
open Go.RowKit

theorem value_any (t : ByteArray) (w : World) (hs : t.size ≤ 4294967296) (h0 : 0 < t.size) (hd : if (t[0]'h0).toNat = 45 then DigT (t.extract 1 t.size) else DigT t) :
    Calls Tryz.prog 86 #[.string t] w fun e w' => e = .returned (.tuple #[.int .i64 (valN t (decide ((t[0]'h0).toNat = 45))).1, .bool (valN t (decide ((t[0]'h0).toNat = 45))).2]) ∧ w = w' := by
  by_cases h : (t[0]'h0).toNat = 45
  · rw [decide_eq_true h]; rw [if_pos h] at hd; exact value_neg t w hs h0 h hd
  · rw [decide_eq_false h]; rw [if_neg h] at hd; exact value_pos t w hs h0 hd

set_option maxHeartbeats 2000000 in
theorem number_any {w : World} {B b : Nat} {s : ByteArray} {L : List Rn} {lv : Value} {i : Nat} {ov : Value} {T : List Tk} (h : Rd w B b s L lv i ov T) (hB : B ≤ w.heap.size) (hL : L.length ≤ 16385) (hT : T.length ≤ 100000) (hs : s.size ≤ 4294967200)
    (x y : Rn) (hx : L[i]? = some x) (hy : L[i + (numN L i - 1)]? = some y) (hn : 1 ≤ numN L i) (hxy : x.fr ≤ y.to) (hys : y.to ≤ s.size) (h0 : 0 < (txt s L i (numN L i)).size)
    (hd : if ((txt s L i (numN L i))[0]'h0).toNat = 45 then DigT ((txt s L i (numN L i)).extract 1 (txt s L i (numN L i)).size) else DigT (txt s L i (numN L i))) (hq : (((txt s L i (numN L i))[0]'h0).toNat = 45) = (rAt L i = 45)) :
    Calls Tryz.prog 59 #[.pointer (some ⟨b, 0, none⟩)] w (Stepped w B b s L lv (numbT s L i T)) := by
  have hi := (List.getElem?_eq_some_iff.1 hx).1
  have hR : rowE digitB L (i + 1) - i = numN L i := rfl
  have hte : s.extract x.fr y.to = txt s L i (numN L i) := by unfold txt; rw [(at_some hx).2.1, (at_some hy).2.2.1]
  have hts : (txt s L i (numN L i)).size ≤ s.size := by rw [← hte, ByteArray.size_extract]; omega
  have hval := fun W => value_any (txt s L i (numN L i)) W (by omega) h0 hd
  have hdq : decide (((txt s L i (numN L i))[0]'h0).toNat = 45) = decide (rAt L i = 45) := by simp only [hq]
  rw [hdq] at hval
  have hw : numbT s L i T = ⟨if (valN (txt s L i (numN L i)) (decide (rAt L i = 45))).2 then 0 else 2, x.line, x.col, i + numN L i, T ++ [⟨3, txt s L i (numN L i), (valN (txt s L i (numN L i)) (decide (rAt L i = 45))).1, x.line, x.col⟩]⟩ := by
    unfold numbT numVal; rw [(at_some hx).2.2.2.1, (at_some hx).2.2.2.2]
  have hov : (valN (txt s L i (numN L i)) (decide (rAt L i = 45))).2 = false → (valN (txt s L i (numN L i)) (decide (rAt L i = 45))).1 = 0 := by
    unfold valN; split <;> split <;> simp
  obtain ⟨vv, hvv⟩ : ∃ vv, valN (txt s L i (numN L i)) (decide (rAt L i = 45)) = vv := ⟨_, rfl⟩
  obtain ⟨v, ok⟩ := vv
  rw [hvv] at hval hw hov
  clear hd hq hdq hvv
  obtain ⟨t, ht⟩ : ∃ t, txt s L i (numN L i) = t := ⟨_, rfl⟩
  obtain ⟨n, hnn⟩ : ∃ n, numN L i = n := ⟨_, rfl⟩
  rw [hnn] at hn hy hR
  rw [ht] at hw hval hte hts
  rw [hnn] at hw
  clear ht h0
  have HW := Lib.hid hw
  have HV := Lib.hid hval
  have HR := Lib.hid h
  have HI := Lib.hid (And.intro hR hte)
  have HX := Lib.hid (And.intro hx hy)
  have HO := Lib.hid hov
  have hbl := h.lt
  clear h hR hte hx hy hw hval hnn hov
  go_enter Tryz.func59, Tryz.ntmps59
  go_wp2_with fail
  refine (fault_any (HR.out.keep ((Below.refl _ _).alloc (Nat.le_refl _) _)) 0 x HX.out.1 hL).mono ?_
  rintro e w1 ⟨rfl, hb1⟩
  have HB1 := Lib.hid (((Below.refl _ w).alloc (Nat.le_refl _) _).trans (hb1.mono (by simp)))
  have HF1 := Lib.hid ((FltAt.new w 0 0 0).below hb1 (by simp))
  clear hb1
  go_wp2_with fail
  refine (row_digitB (HR.out.keep (HB1.out.alloc HB1.out.size _)) 1 hL (by omega) (by omega)).mono ?_
  rintro e w2 ⟨rfl, hb2⟩
  have HB2 := Lib.hid ((HB1.out.alloc HB1.out.size _).trans (hb2.mono (by have := HB1.out.size; simp; omega)))
  have HF2 := Lib.hid ((HF1.out.alloc _).below hb2 (by have := HF1.out.lt; simp; omega))
  have HG2 := Lib.hid ((FltAt.new w1 0 x.line x.col).below hb2 (by simp))
  have hw1 := HB1.out.size
  clear hb2 HB1 HF1
  rw [HI.out.1]
  go_wp2_with fail
  refine (take_any (HR.out.keep HB2.out) 3 n x y HX.out.1 HX.out.2 hn hL hT hxy hys (by have := HB2.out.size; omega)).mono ?_
  rintro e w3 ⟨g3, cap3, rfl, hk⟩
  rw [HI.out.2] at hk
  have hfb := HG2.out.took hk (by omega)
  have hfr := HF2.out.took hk (by omega)
  have HK := Lib.hid (hk.after HB2.out hB)
  obtain ⟨_, c1, c2, _, f2, hgl, hgn⟩ := hk.last
  have hgb := hgn _ _ _ _ hfr
  clear hk HF2 HG2 hgn
  obtain ⟨a0, a1, a2, a3, a4, a5⟩ := hfr.facts
  obtain ⟨b0, b1, b2, b3, b4, b5⟩ := hfb.facts
  have HFR := Lib.hid hfr
  clear hfr hfb
  go_wp2_with fail
  refine (HV.out _).mono ?_
  rintro e w' ⟨rfl, rfl⟩
  cases ok
  · have HV0 := Lib.hid (HO.out rfl)
    have HK6 := Lib.hid (HK.out.stored (Nat.le_refl _) hbl hB HFR.out 2 x.line x.col)
    obtain ⟨e0, e1, e2, _, _, _⟩ := (HFR.out.stored 2 x.line x.col).facts
    go_wp2
    exact bodyPost_ret (v := .agg #[.int .i64 2, .int .i64 x.line, .int .i64 x.col]) (by simp [results, Tryz.results59, go_sem, e0, e1, e2]) rfl ⟨by rw [HW.out]; rfl, ⟨_, by rw [HW.out]; show Took _ _ _ _ _ _ _ _ _ (T ++ [⟨3, t, v, _, _⟩]); rw [HV0.out]; exact HK6.out⟩⟩
  · have HK2 := Lib.hid (HK.out.setTok (j := 2) (u := .int .i64 v) (y := ⟨3, t, v, x.line, x.col⟩) (by omega) rfl)
    have hf2 := HFR.out.setOther (j := T.length * 5 + 2) hgb (.int .i64 v)
    obtain ⟨d0, d1, d2, d3, d4, d5⟩ := hf2.facts
    have HK3 := Lib.hid (HK2.out.stored (Nat.le_refl _) hbl hB hf2 0 0 0)
    obtain ⟨e0, e1, e2, _, _, _⟩ := (hf2.stored 0 0 0).facts
    clear hf2
    go_wp2
    exact bodyPost_ret (v := .agg #[.int .i64 0, .int .i64 0, .int .i64 0]) (by simp [results, Tryz.results59, go_sem, e0, e1, e2]) rfl ⟨by rw [HW.out]; rfl, ⟨_, by rw [HW.out]; exact HK3.out⟩⟩

end Go.Proofs.YthlofmnmacpogaaGreatDoor

namespace Go.Proofs.YthlofmnmacpogaaGreatDoor
open Go.RowKit

theorem encode_ascii (c : Int) (h0 : 0 ≤ c) (h1 : c < 128) : (Utf8.encode c).data.toList = [UInt8.ofNat c.toNat] := by
  unfold Utf8.encode Utf8.valid
  have h2 : (decide (0 ≤ c) && decide (c < 55296) || decide (57344 ≤ c) && decide (c ≤ 1114111)) = true := by simp; omega
  simp only [h2, if_true]
  rw [if_pos (by omega)]

theorem encode_high (c : Int) (h : ¬ (0 ≤ c ∧ c < 128)) : ∃ b ∈ (Utf8.encode c).data.toList, 128 ≤ b.toNat := by
  unfold Utf8.encode
  simp only
  obtain ⟨n, hn⟩ : ∃ n, (if Utf8.valid c = true then c.toNat else Utf8.runeError) = n := ⟨_, rfl⟩
  have hn1 : 128 ≤ n ∧ n ≤ 1114111 := by
    rw [← hn]
    unfold Utf8.valid Utf8.runeError
    split
    · rename_i hv; simp at hv; omega
    · omega
  rw [hn, if_neg (by omega)]
  split
  · exact ⟨UInt8.ofNat (192 + n / 64), by simp, by rw [UInt8.toNat_ofNat']; omega⟩
  · split
    · exact ⟨UInt8.ofNat (224 + n / 4096), by simp, by rw [UInt8.toNat_ofNat']; omega⟩
    · exact ⟨UInt8.ofNat (240 + n / 262144), by simp, by rw [UInt8.toNat_ofNat']; omega⟩

theorem prefix_sub {α : Type} [BEq α] [LawfulBEq α] {sub l : List α} (h : sub.isPrefixOf l = true) : ∀ b ∈ sub, b ∈ l := by
  intro b hb
  have := List.isPrefixOf_iff_prefix.1 h
  exact this.subset hb

theorem contains_mem {l sub : List UInt8} (h : Lib.contains l sub = true) : ∀ b ∈ sub, b ∈ l := by
  unfold Lib.contains at h
  replace h := of_decide_eq_true h
  induction l with
  | nil =>
    unfold Lib.index at h
    cases sub with
    | nil => intro b hb; simp at hb
    | cons a r => simp at h
  | cons x r ih =>
    unfold Lib.index at h
    intro b hb
    by_cases hp : sub.isPrefixOf (x :: r) = true
    · exact prefix_sub hp b hb
    · rw [if_neg hp] at h
      by_cases h1 : (Lib.index r sub == -1) = true
      · rw [if_pos h1] at h; omega
      · rw [if_neg h1] at h
        have h3 : Lib.index r sub ≠ -1 := by simpa using h1
        exact List.mem_cons_of_mem _ (ih (by omega) b hb)

def twosT : List UInt8 := [32, 60, 61, 32, 62, 61, 32, 33, 61, 32]
theorem twos_ascii (C D : UInt8) : Lib.contains twosT [32, C, D, 32] = ((C == 60 || C == 62 || C == 33) && D == 61) := by
  unfold Lib.contains twosT
  by_cases h0 : D = 61
  · subst h0
    by_cases h1 : C = 60
    · subst h1; decide
    · by_cases h2 : C = 62
      · subst h2; decide
      · by_cases h3 : C = 33
        · subst h3; decide
        · simp [Lib.index, List.isPrefixOf, h1, h2, h3]
  · simp [Lib.index, List.isPrefixOf, h0]

theorem twos_is (c d : Int) : Lib.contains twosT ((⟨#[32]⟩ : ByteArray) ++ (Utf8.encode c ++ Utf8.encode d) ++ (⟨#[32]⟩ : ByteArray)).data.toList = decide (signN c d = 2) := by
  have e : ((⟨#[32]⟩ : ByteArray) ++ (Utf8.encode c ++ Utf8.encode d) ++ (⟨#[32]⟩ : ByteArray)).data.toList = 32 :: ((Utf8.encode c).data.toList ++ (Utf8.encode d).data.toList ++ [32]) := by simp [ByteArray.data_append]
  have hs : (signN c d = 2) ↔ ((c = 60 ∨ c = 62 ∨ c = 33) ∧ d = 61) := by
    unfold signN
    constructor
    · intro h
      by_cases hq : (c = 60 ∨ c = 62 ∨ c = 33) ∧ d = 61
      · exact hq
      · rw [if_neg hq] at h; split at h <;> omega
    · intro h; rw [if_pos h]
  rw [e, Bool.eq_iff_iff, decide_eq_true_iff, hs]
  by_cases hc : 0 ≤ c ∧ c < 128
  · by_cases hd : 0 ≤ d ∧ d < 128
    · rw [encode_ascii c hc.1 hc.2, encode_ascii d hd.1 hd.2]
      show Lib.contains twosT [32, _, _, 32] = true ↔ _
      rw [twos_ascii]
      have key : ∀ (x : Int) (k : Nat), 0 ≤ x → x < 128 → k < 128 → ((UInt8.ofNat x.toNat == UInt8.ofNat k) = true ↔ x = k) := by
        intro x k a b c
        rw [beq_iff_eq, ← UInt8.toNat_inj, UInt8.toNat_ofNat', UInt8.toNat_ofNat']
        omega
      rw [Bool.and_eq_true, Bool.or_eq_true, Bool.or_eq_true]
      rw [show (60 : UInt8) = UInt8.ofNat 60 from rfl, show (62 : UInt8) = UInt8.ofNat 62 from rfl, show (33 : UInt8) = UInt8.ofNat 33 from rfl, show (61 : UInt8) = UInt8.ofNat 61 from rfl]
      rw [key c 60 hc.1 hc.2 (by omega), key c 62 hc.1 hc.2 (by omega), key c 33 hc.1 hc.2 (by omega), key d 61 hd.1 hd.2 (by omega)]
      omega
    · obtain ⟨b, hb, hb2⟩ := encode_high d hd
      constructor
      · intro h
        have := contains_mem h b (by simp [hb])
        have hall : ∀ x ∈ twosT, x.toNat < 128 := by decide
        have := hall b this
        omega
      · intro h; omega
  · obtain ⟨b, hb, hb2⟩ := encode_high c hc
    constructor
    · intro h
      have := contains_mem h b (by simp [hb])
      have hall : ∀ x ∈ twosT, x.toNat < 128 := by decide
      have := hall b this
      omega
    · intro h; omega

def onesT : List UInt8 := [60, 62, 61, 40, 41, 91, 93, 44, 59]
theorem ones_is (c : Int) (h0 : 33 ≤ c) (h1 : c ≤ 126) : (0 ≤ Lib.indexByte onesT c.toNat.toUInt8) ↔ (c = 60 ∨ c = 62 ∨ c = 61 ∨ c = 40 ∨ c = 41 ∨ c = 91 ∨ c = 93 ∨ c = 44 ∨ c = 59) := by
  obtain ⟨n, rfl⟩ := Int.eq_ofNat_of_zero_le (show 0 ≤ c by omega)
  have key : ∀ k : Fin 127, (0 ≤ Lib.indexByte onesT (k.val : Int).toNat.toUInt8) ↔ ((k.val : Int) = 60 ∨ (k.val : Int) = 62 ∨ (k.val : Int) = 61 ∨ (k.val : Int) = 40 ∨ (k.val : Int) = 41 ∨ (k.val : Int) = 91 ∨ (k.val : Int) = 93 ∨ (k.val : Int) = 44 ∨ (k.val : Int) = 59) := by decide +kernel
  exact key ⟨n, by omega⟩

end Go.Proofs.YthlofmnmacpogaaGreatDoor
