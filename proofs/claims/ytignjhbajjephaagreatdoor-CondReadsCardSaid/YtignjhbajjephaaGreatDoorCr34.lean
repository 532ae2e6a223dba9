/- Plain: what the token reader does at a place: what is wrong, where it goes on, and the tokens then; and what its steps leave of memory. Contract of the token reader's word. -/
import Derived.Test.YtignjhbajjephaaGreatDoorCr29
import Derived.Test.YtignjhbajjephaaGreatDoorCr33
import Derived.Deep.RegionWith

namespace Go.Proofs.YtignjhbajjephaaGreatDoor
open Go.RowKit

def frAt (L : List Rn) (i : Nat) : Nat := match L[i]? with | some x => x.fr | none => 0
def toAt (L : List Rn) (i : Nat) : Nat := match L[i]? with | some x => x.to | none => 0
def lineAt (L : List Rn) (i : Nat) : Int := match L[i]? with | some x => x.line | none => 0
def colAt (L : List Rn) (i : Nat) : Int := match L[i]? with | some x => x.col | none => 0
theorem at_some {L : List Rn} {i : Nat} {x : Rn} (h : L[i]? = some x) : rAt L i = x.r ∧ frAt L i = x.fr ∧ toAt L i = x.to ∧ lineAt L i = x.line ∧ colAt L i = x.col := by
  unfold rAt frAt toAt lineAt colAt; rw [h]; exact ⟨rfl, rfl, rfl, rfl, rfl⟩

/-- the text of so many runes from a place on -/
def txt (s : ByteArray) (L : List Rn) (i n : Nat) : ByteArray := s.extract (frAt L i) (toAt L (i + (n - 1)))

def wordErr (t : ByteArray) : Int := if knownB t then 0 else if hasGreatB t then 1 else if 16 < t.size then 3 else 0
def wordKind (t : ByteArray) : Int := if knownB t then 2 else 1
def restB (c : Int) : Bool := decide (c ≠ 10 ∧ c ≠ -1)

structure Res where
  er : Int
  line : Int
  col : Int
  i : Nat
  T : List Tk

def wordN (L : List Rn) (i : Nat) : Nat := rowE innerB L i - i
def numN (L : List Rn) (i : Nat) : Nat := rowE digitB L (i + 1) - i
def wordT (s : ByteArray) (L : List Rn) (i : Nat) (T : List Tk) : Res :=
  ⟨wordErr (txt s L i (wordN L i)), lineAt L i, colAt L i, i + wordN L i, T ++ [⟨wordKind (txt s L i (wordN L i)), txt s L i (wordN L i), 0, lineAt L i, colAt L i⟩]⟩
def numVal (s : ByteArray) (L : List Rn) (i : Nat) : Int × Bool := valN (txt s L i (numN L i)) (decide (rAt L i = 45))
def numbT (s : ByteArray) (L : List Rn) (i : Nat) (T : List Tk) : Res :=
  ⟨if (numVal s L i).2 then 0 else 2, lineAt L i, colAt L i, i + numN L i, T ++ [⟨3, txt s L i (numN L i), (numVal s L i).1, lineAt L i, colAt L i⟩]⟩
def signT (s : ByteArray) (L : List Rn) (i : Nat) (T : List Tk) : Res :=
  if signN (rAt L i) (rAt L (i + 1)) = 0 then ⟨1, lineAt L i, colAt L i, i, T⟩
  else ⟨0, 0, 0, i + signN (rAt L i) (rAt L (i + 1)), T ++ [⟨4, txt s L i (signN (rAt L i) (rAt L (i + 1))), 0, lineAt L i, colAt L i⟩]⟩
def restT (L : List Rn) (i : Nat) (T : List Tk) : Res :=
  if rowE restB L i < L.length ∧ rAt L (rowE restB L i) = -1 then ⟨1, lineAt L (rowE restB L i), colAt L (rowE restB L i), rowE restB L i, T⟩ else ⟨0, 0, 0, rowE restB L i, T⟩
def isNum (L : List Rn) (i : Nat) : Bool := digitB (rAt L i) || (decide (rAt L i = 45) && digitB (rAt L (i + 1)))
def tokT (s : ByteArray) (L : List Rn) (i : Nat) (T : List Tk) : Res :=
  if letterB (rAt L i) then wordT s L i T else if isNum L i then numbT s L i T else signT s L i T
def capT (L : List Rn) (i : Nat) (r : Res) : Res := if r.er ≠ 0 then r else if 4096 < r.T.length then { r with er := 3, line := lineAt L i, col := colAt L i } else r
def oneT (s : ByteArray) (L : List Rn) (i : Nat) (T : List Tk) : Res :=
  if blankB (rAt L i) then ⟨0, 0, 0, i + 1, T⟩ else if rAt L i = 35 then restT L i T else capT L i (tokT s L i T)
def runT (s : ByteArray) (L : List Rn) : Nat → Nat → List Tk → Res
  | 0, i, T => ⟨0, 0, 0, i, T⟩
  | k + 1, i, T => if i < L.length then (if (oneT s L i T).er ≠ 0 then oneT s L i T else runT s L k (oneT s L i T).i (oneT s L i T).T) else ⟨0, 0, 0, i, T⟩

/-- a fault as a value: nothing is wrong, or what and where -/
def faultV (er line col : Int) : Value := if er = 0 then .agg #[.int .i64 0, .int .i64 0, .int .i64 0] else .agg #[.int .i64 er, .int .i64 line, .int .i64 col]
theorem faultV_ok (l c : Int) : faultV 0 l c = .agg #[.int .i64 0, .int .i64 0, .int .i64 0] := rfl
theorem faultV_no {er l c : Int} (h : er ≠ 0) : faultV er l c = .agg #[.int .i64 er, .int .i64 l, .int .i64 c] := if_neg h

/-- what a step leaves: it has answered what is wrong, and the reader is where it is to be -/
def Stepped (w : World) (B b : Nat) (s : ByteArray) (L : List Rn) (lv : Value) (r : Res) (e : Ending) (w' : World) : Prop :=
  e = .returned (faultV r.er r.line r.col) ∧ ∃ ov, Took w w' B b s L lv r.i ov r.T

/-- a fault in a block of its own -/
def FltAt (w : World) (b : Nat) (er line col : Int) : Prop := w.heap[b]? = some (.cells #[.int .i64 er, .int .i64 line, .int .i64 col] 28 (0, 0))
theorem FltAt.facts {w : World} {b : Nat} {er line col : Int} (h : FltAt w b er line col) :
    w.cell? ⟨b, 0, none⟩ = some (.int .i64 er) ∧ w.cell? ⟨b, 1, none⟩ = some (.int .i64 line) ∧ w.cell? ⟨b, 2, none⟩ = some (.int .i64 col) ∧ w.frozen? ⟨b, 0, none⟩ = false ∧ w.frozen? ⟨b, 1, none⟩ = false ∧ w.frozen? ⟨b, 2, none⟩ = false := by
  unfold FltAt at h
  refine ⟨?_, ?_, ?_, ?_, ?_, ?_⟩
  · simp [World.cell?, h]
  · simp [World.cell?, h]
  · simp [World.cell?, h]
  · simp [World.frozen?, h]
  · simp [World.frozen?, h]
  · simp [World.frozen?, h]
theorem FltAt.stored {w : World} {b : Nat} {er line col : Int} (h : FltAt w b er line col) (e' l' c' : Int) : FltAt (((w.setCell ⟨b, 0, none⟩ (.int .i64 e')).setCell ⟨b, 1, none⟩ (.int .i64 l')).setCell ⟨b, 2, none⟩ (.int .i64 c')) b e' l' c' := by
  have h1 := heap_setCell_same w b 0 _ _ (.int .i64 e') h
  have h2 := heap_setCell_same _ b 1 _ _ (.int .i64 l') h1
  have h3 := heap_setCell_same _ b 2 _ _ (.int .i64 c') h2
  exact h3
theorem FltAt.lt {w : World} {b : Nat} {er line col : Int} (h : FltAt w b er line col) : b < w.heap.size := (Array.getElem?_eq_some_iff.1 h).1
theorem FltAt.below {w w' : World} {b B : Nat} {er line col : Int} (h : FltAt w b er line col) (hb : Below B w w') (hB : b < B) : FltAt w' b er line col := (hb.block b hB).trans h
theorem FltAt.took {w w' : World} {B b k : Nat} {s : ByteArray} {L : List Rn} {lv : Value} {i : Nat} {ov : Value} {T : List Tk} {er line col : Int} (h : FltAt w k er line col) (ht : Took w w' B b s L lv i ov T) (hkb : k ≠ b) : FltAt w' k er line col :=
  ht.kept k _ h (fun e => hkb (Option.some.inj e)) (fun c fz e => by simp at e)
theorem FltAt.alloc {w : World} {k : Nat} {er line col : Int} (h : FltAt w k er line col) (o : Obj) : FltAt (w.alloc o) k er line col := (Below.heap_alloc _ _ _ h.lt).trans h
theorem FltAt.setOther {w : World} {k g j : Nat} {er line col : Int} (h : FltAt w k er line col) (hne : g ≠ k) (u : Value) : FltAt (w.setCell ⟨g, j, none⟩ u) k er line col := (Below.heap_setCell _ _ _ _ (by show k ≠ g; omega)).trans h
theorem FltAt.drewN {w : World} {k : Nat} {er line col : Int} (h : FltAt w k er line col) (n : Nat) : FltAt (w.drewN n) k er line col := h
theorem FltAt.ne_row {w : World} {k base sz n g cap : Nat} {e : TypeId} {er line col : Int} {xs : List Value} (h : FltAt w k er line col) (ho : w.ownsRow base e sz (.slice (some ⟨g, 0, none⟩) n cap) n xs) (hne : 28 ≠ e) : g ≠ k := by
  intro e'
  subst e'
  exact owns_ne_block ho h hne rfl
theorem FltAt.new (w : World) (er line col : Int) : FltAt (w.alloc (.cells #[.int .i64 er, .int .i64 line, .int .i64 col] 28)) w.heap.size er line col := heap_alloc_new w _

theorem Took.of_rd {w : World} {B b : Nat} {s : ByteArray} {L : List Rn} {lv : Value} {i : Nat} {ov : Value} {T : List Tk} (h : Rd w B b s L lv i ov T) : Took w w B b s L lv i ov T :=
  ⟨h, Below.refl _ _, Lib.OthersKept.refl _ _ _⟩
theorem kept_of_below {t : TypeId} {b : Option Nat} {w w' : World} (h : Below w.heap.size w w') : Lib.OthersKept t b w w' :=
  fun k _ hk _ _ => (h.block k (Array.getElem?_eq_some_iff.1 hk).1).trans hk
theorem Took.after {w w1 w' : World} {B b : Nat} {s : ByteArray} {L : List Rn} {lv : Value} {i : Nat} {ov : Value} {T : List Tk} (h : Took w1 w' B b s L lv i ov T) (hb : Below w.heap.size w w1) (hB : B ≤ w.heap.size) : Took w w' B b s L lv i ov T :=
  ⟨h.rd, (hb.mono hB).trans h.low, (kept_of_below hb).trans h.kept⟩
theorem Took.then {w w1 w' : World} {B b : Nat} {s : ByteArray} {L : List Rn} {lv : Value} {i : Nat} {ov : Value} {T : List Tk} (h : Took w w1 B b s L lv i ov T) (hb : Below w1.heap.size w1 w') (hB : B ≤ w.heap.size) : Took w w' B b s L lv i ov T :=
  ⟨h.rd.keep hb, h.low.trans (hb.mono (Nat.le_trans hB h.low.size)), h.kept.trans (kept_of_below hb)⟩

/-- a row of another type stands behind a store into a block that is none of its own -/
theorem owns_setCell {w : World} {base : Nat} {e t : TypeId} {sz : Nat} {v : Value} {n k : Nat} {xs : List Value} {cs : Array Value} {fr : Nat × Nat} (h : w.ownsRow base e sz v n xs) (hk : w.heap[k]? = some (.cells cs t fr)) (hne : t ≠ e) (j : Nat) (u : Value) :
    (w.setCell ⟨k, j, none⟩ u).ownsRow base e sz v n xs := by
  have hnb := owns_ne_block h hk hne
  refine ⟨h.1, ?_⟩
  rcases h.2 with hn | ⟨g, cap, cur, hv, hBg, hgg, r⟩
  · exact .inl hn
  · exact .inr ⟨g, cap, cur, hv, hBg, (Below.heap_setCell _ _ _ _ (by show g ≠ k; intro e'; exact hnb (by rw [hv, e']; rfl))).trans hgg, r⟩

/-- a store into a block that the step itself made, and that is neither the reader nor a row -/
theorem Took.setNew {w w' : World} {B b : Nat} {s : ByteArray} {L : List Rn} {lv : Value} {i : Nat} {ov : Value} {T : List Tk} (h : Took w w' B b s L lv i ov T) {k : Nat} (hk : w.heap.size ≤ k) (hb : b < w.heap.size) (hB : B ≤ w.heap.size)
    {cs : Array Value} {t : TypeId} {fr : Nat × Nat} (ho : w'.heap[k]? = some (.cells cs t fr)) (h1 : t ≠ 43) (h2 : t ≠ 73) (j : Nat) (u : Value) : Took w (w'.setCell ⟨k, j, none⟩ u) B b s L lv i ov T := by
  refine ⟨⟨?_, h.rd.low, owns_setCell h.rd.run ho h2 j u, owns_setCell h.rd.out ho h1 j u⟩, h.low.setCell (p := ⟨k, j, none⟩) (by show B ≤ k; omega) _, ?_⟩
  · rw [Below.heap_setCell _ _ _ _ (by show b ≠ k; omega)]; exact h.rd.blk
  · intro q o hq hqb hqo
    rw [Below.heap_setCell _ _ _ _ (by show q ≠ k; have := (Array.getElem?_eq_some_iff.1 hq).1; omega)]
    exact h.kept q o hq hqb hqo
theorem Took.stored {w w' : World} {B b : Nat} {s : ByteArray} {L : List Rn} {lv : Value} {i : Nat} {ov : Value} {T : List Tk} (h : Took w w' B b s L lv i ov T) {k : Nat} (hk : w.heap.size ≤ k) (hb : b < w.heap.size) (hB : B ≤ w.heap.size)
    {er line col : Int} (ho : FltAt w' k er line col) (e' l' c' : Int) : Took w (((w'.setCell ⟨k, 0, none⟩ (.int .i64 e')).setCell ⟨k, 1, none⟩ (.int .i64 l')).setCell ⟨k, 2, none⟩ (.int .i64 c')) B b s L lv i ov T := by
  have h1 := heap_setCell_same w' k 0 _ _ (.int .i64 e') ho
  have h2 := heap_setCell_same _ k 1 _ _ (.int .i64 l') h1
  exact ((h.setNew hk hb hB ho (by decide) (by decide) 0 _).setNew hk hb hB h1 (by decide) (by decide) 1 _).setNew hk hb hB h2 (by decide) (by decide) 2 _

theorem owns_setIn {w : World} {base : Nat} {e : TypeId} {sz n g cap : Nat} {xs : List Value} (h : w.ownsRow base e sz (.slice (some ⟨g, 0, none⟩) n cap) n xs) (j : Nat) (u : Value) (_hj : j < n * sz) :
    (w.setCell ⟨g, j, none⟩ u).ownsRow base e sz (.slice (some ⟨g, 0, none⟩) n cap) n (xs.set j u) := by
  refine ⟨by rw [List.length_set]; exact h.1, ?_⟩
  rcases h.2 with ⟨e, _⟩ | ⟨g', cap', cur, hv, hBg, hgg, a, b, c, d⟩
  · simp at e
  · simp only [Value.slice.injEq, Option.some.injEq, Addr.mk.injEq, true_and, and_true] at hv
    obtain ⟨rfl, rfl⟩ := hv
    refine .inr ⟨g, cap, cur.setIfInBounds j u, rfl, hBg, heap_setCell_same w g j cur e u hgg, a, b, by simpa using c, ?_⟩
    rw [← d, Array.toList_setIfInBounds, List.take_set]

/-- a store into the last token -/
theorem Took.setTok {w w' : World} {B b g cap : Nat} {s : ByteArray} {L : List Rn} {lv : Value} {i : Nat} {T : List Tk} {x y : Tk} {j : Nat} {u : Value} (h : Took w w' B b s L lv i (.slice (some ⟨g, 0, none⟩) (T.length + 1) cap) (T ++ [x]))
    (hj : j < 5) (hy : (tkCells x).set j u = tkCells y) : Took w (w'.setCell ⟨g, T.length * 5 + j, none⟩ u) B b s L lv i (.slice (some ⟨g, 0, none⟩) (T.length + 1) cap) (T ++ [y]) := by
  have ho := h.rd.out
  rw [show (T ++ [x]).length = T.length + 1 by simp] at ho
  have hgB := (ho.lt g rfl).1
  have hgg : ∃ cs, w'.heap[g]? = some (.cells cs 43 (0, 0)) := by
    rcases ho.2 with ⟨e, _⟩ | ⟨g', cap', cur, hv, _, hg, _⟩
    · simp at e
    · simp only [Value.slice.injEq, Option.some.injEq, Addr.mk.injEq, true_and, and_true] at hv
      obtain ⟨rfl, _⟩ := hv
      exact ⟨_, hg⟩
  obtain ⟨cs, hgg⟩ := hgg
  have hgb : g ≠ b := by
    intro e
    have := h.rd.blk
    rw [← e, hgg] at this
    simp at this
  refine ⟨⟨?_, h.rd.low, owns_setCell h.rd.run hgg (by decide) _ u, ?_⟩, h.low.setCell (p := ⟨g, T.length * 5 + j, none⟩) hgB _, ?_⟩
  · rw [Below.heap_setCell _ _ _ _ (by show b ≠ g; omega)]; exact h.rd.blk
  · rw [show (T ++ [y]).length = T.length + 1 by simp]
    rw [← tkFlat_last T j x y u hj hy]
    exact owns_setIn ho _ u (by omega)
  · intro q o hq hqb hqo
    rw [Below.heap_setCell _ _ _ _ (by show q ≠ g; intro e; subst e; have h9 := h.kept q o hq hqb hqo; rw [hgg] at h9; exact hqo _ _ (Option.some.inj h9).symm)]
    exact h.kept q o hq hqb hqo

theorem Took.last {w w' : World} {B b g cap : Nat} {s : ByteArray} {L : List Rn} {lv : Value} {i : Nat} {T : List Tk} {x : Tk} (h : Took w w' B b s L lv i (.slice (some ⟨g, 0, none⟩) (T.length + 1) cap) (T ++ [x])) :
    w'.cell? ⟨g, T.length * 5, none⟩ = some (.int .i64 x.kind) ∧ w'.cell? ⟨g, T.length * 5 + 1, none⟩ = some (.string x.text) ∧ w'.cell? ⟨g, T.length * 5 + 2, none⟩ = some (.int .i64 x.num) ∧
      w'.frozen? ⟨g, T.length * 5, none⟩ = false ∧ w'.frozen? ⟨g, T.length * 5 + 2, none⟩ = false ∧ g < w'.heap.size ∧ ∀ k er l c, FltAt w' k er l c → g ≠ k := by
  have ho := h.rd.out
  rw [List.length_append, List.length_singleton] at ho
  have hx : (T ++ [x])[T.length]? = some x := by simp
  exact ⟨(World.ownsRow.cellAt ho (T.length * 5) (by omega)).trans (tkFlat_get _ T.length 0 x hx (by omega)), (World.ownsRow.cellAt ho (T.length * 5 + 1) (by omega)).trans (tkFlat_get _ T.length 1 x hx (by omega)),
    (World.ownsRow.cellAt ho (T.length * 5 + 2) (by omega)).trans (tkFlat_get _ T.length 2 x hx (by omega)), World.ownsRow.frozenAt ho _, World.ownsRow.frozenAt ho _, (ho.lt g rfl).2, fun k _ _ _ hf => hf.ne_row ho (by decide)⟩

end Go.Proofs.YtignjhbajjephaaGreatDoor

namespace Go.Proofs.YtignjhbajjephaaGreatDoor
open Go.RowKit

theorem lowerB_same (b : UInt8) : Lib.lowerB b = b ↔ greatB (b.toNat : Int) = false := by
  have key : ∀ n : Fin 256, Lib.lowerB (UInt8.ofNat n.val) = UInt8.ofNat n.val ↔ greatB ((UInt8.ofNat n.val).toNat : Int) = false := by decide +kernel
  have := key ⟨b.toNat, b.toNat_lt⟩
  simpa using this
theorem lower_same (l : List UInt8) : (Lib.toLowerA l = l) ↔ l.any (fun b => greatB (b.toNat : Int)) = false := by
  unfold Lib.toLowerA
  induction l with
  | nil => simp
  | cons x r ih => rw [List.map_cons, List.cons.injEq, ih, lowerB_same, List.any_cons, Bool.or_eq_false_iff]

set_option maxHeartbeats 2000000 in
theorem word_any {w : World} {B b : Nat} {s : ByteArray} {L : List Rn} {lv : Value} {i : Nat} {ov : Value} {T : List Tk} (h : Rd w B b s L lv i ov T) (hm : MaxCell w) (hB0 : 0 < B) (hB : B ≤ w.heap.size) (hL : L.length ≤ 16385) (hT : T.length ≤ 100000) (hs : s.size ≤ 4294967200)
    (x y : Rn) (hx : L[i]? = some x) (hy : L[i + (wordN L i - 1)]? = some y) (hn : 1 ≤ wordN L i) (hxy : x.fr ≤ y.to) (hys : y.to ≤ s.size) (hasc : ∀ c ∈ (txt s L i (wordN L i)).data.toList, c.toNat < 128) :
    Calls Tryz.prog 28 #[.pointer (some ⟨b, 0, none⟩)] w (Stepped w B b s L lv (wordT s L i T)) := by
  have hi := (List.getElem?_eq_some_iff.1 hx).1
  obtain ⟨t, ht⟩ : ∃ t, txt s L i (wordN L i) = t := ⟨_, rfl⟩
  obtain ⟨n, hnn⟩ : ∃ n, wordN L i = n := ⟨_, rfl⟩
  have hR : rowE innerB L (i + 0) - i = n := hnn
  have hte : s.extract x.fr y.to = t := by rw [← ht]; unfold txt; rw [(at_some hx).2.1, (at_some hy).2.2.1]
  rw [ht] at hasc
  rw [hnn] at hn hy
  have hw : wordT s L i T = ⟨wordErr t, x.line, x.col, i + n, T ++ [⟨wordKind t, t, 0, x.line, x.col⟩]⟩ := by
    unfold wordT; rw [ht, hnn, (at_some hx).2.2.2.1, (at_some hx).2.2.2.2]
  have HW := Lib.hid hw
  have hts : t.size ≤ s.size := by rw [← hte, ByteArray.size_extract]; omega
  have HR := Lib.hid h
  have HI := Lib.hid (And.intro hR hte)
  have HM := Lib.hid hm
  have HX := Lib.hid (And.intro hx hy)
  have hbl := h.lt
  clear h hR hte hm hx hy hw
  go_enter Tryz.func28, Tryz.ntmps28
  go_wp2_with fail
  refine (row_innerB (HR.out.keep ((Below.refl _ _).alloc (Nat.le_refl _) _)) 0 hL (by omega) (by omega)).mono ?_
  rintro e w1 ⟨rfl, hb1⟩
  have HB1 := Lib.hid (((Below.refl _ w).alloc (Nat.le_refl _) _).trans (hb1.mono (by simp)))
  have HF1 := Lib.hid ((FltAt.new w 0 0 0).below hb1 (by simp))
  clear hb1
  rw [HI.out.1]
  go_wp2_with fail
  refine (fault_any (HR.out.keep HB1.out) 0 x HX.out.1 hL).mono ?_
  rintro e w2 ⟨rfl, hb2⟩
  have HB2 := Lib.hid (HB1.out.trans (hb2.mono HB1.out.size))
  have HF2 := Lib.hid (HF1.out.below hb2 HF1.out.lt)
  clear hb2 HB1 HF1
  go_wp2_with fail
  refine (take_any (HR.out.keep (HB2.out.alloc HB2.out.size _)) 1 n x y HX.out.1 HX.out.2 hn hL hT hxy hys (by have := HB2.out.size; simp; omega)).mono ?_
  rintro e w3 ⟨g3, cap3, rfl, hk⟩
  rw [HI.out.2] at hk
  have hfb := (FltAt.new w2 0 x.line x.col).took hk (by have := HB2.out.size; omega)
  have hfr := (HF2.out.alloc _).took hk (by omega)
  have HK := Lib.hid (hk.after (HB2.out.alloc HB2.out.size _) hB)
  obtain ⟨_, c1, _, f0, _, hgl, hgn⟩ := hk.last
  have hgb := hgn _ _ _ _ hfr
  clear hk HF2 hgn
  obtain ⟨a0, a1, a2, a3, a4, a5⟩ := hfr.facts
  obtain ⟨b0, b1, b2, b3, b4, b5⟩ := hfb.facts
  have HFR := Lib.hid hfr
  have HFB := Lib.hid hfb
  clear hfr hfb
  go_wp2_with fail
  refine (known_any t _ (HM.out.below HK.out.low hB0) (by omega)).mono ?_
  rintro e w' ⟨rfl, rfl⟩
  cases hkn : knownB t
  · have hq : (⟨(Lib.toLowerA t.data.toList).toArray⟩ : ByteArray) = t ↔ hasGreatB t = false := by
      unfold hasGreatB
      rw [← lower_same]
      exact ⟨fun e => by have := congrArg (fun q : ByteArray => q.data.toList) e; simpa using this, fun e => by rw [e]⟩
    have HN := Lib.hid hkn; clear hkn
    obtain ⟨tl, htl⟩ : ∃ tl : ByteArray, (⟨(Lib.toLowerA t.data.toList).toArray⟩ : ByteArray) = tl := ⟨_, rfl⟩
    rw [htl] at hq
    have HTL := Lib.hid htl; clear htl
    have HA := Lib.hid hasc; clear hasc
    go_wp2
    go_region_held3 (fun w' => w'.cell? ⟨g3, T.length * 5 + 1, none⟩ = some (.string t)) (first | assumption | go_keep)
      (first | (go_at_call 60; refine (Tryz.strings_ToLower_ascii t _ (by omega) (by intro j c hc; exact HA.out c (List.mem_of_getElem? hc))).mono ?_; rintro e w5 ⟨rfl, hb5⟩; rw [HTL.out]; have q5 := (hb5.cell (p := ⟨g3, T.length * 5 + 1, none⟩) hgl).trans c1))
    replace hb5 := ((Below.refl w3.heap.size w3).drew).trans hb5
    have HK5 := Lib.hid (HK.out.then hb5 hB)
    have hfr5 := HFR.out.below hb5 HFR.out.lt
    have hfb5 := HFB.out.below hb5 HFB.out.lt
    clear hb5 a0 a1 a2 a3 a4 a5 b0 b1 b2 b3 b4 b5
    obtain ⟨a0, a1, a2, a3, a4, a5⟩ := hfr5.facts
    obtain ⟨b0, b1, b2, b3, b4, b5⟩ := hfb5.facts
    have HKD : Hid (wordKind t = 1) := by unfold Hid wordKind; rw [HN.out]; rfl
    cases hg : hasGreatB t
    · have hte : (tl.toList == t.toList) = true := by rw [hq.2 hg]; simp
      rw [hte]
      clear hte
      by_cases h16 : 16 < t.size
      · have HE : Hid (wordErr t = 3) := by unfold Hid wordErr; rw [HN.out, hg]; simp [h16]
        have h16' : (16 : Int) < t.size := by omega
        clear hg hq h16
        have HK6 := Lib.hid (HK5.out.stored (Nat.le_refl _) hbl hB hfr5 3 x.line x.col)
        obtain ⟨e0, e1, e2, _, _, _⟩ := (hfr5.stored 3 x.line x.col).facts
        clear hfr5 hfb5
        go_wp2
        exact bodyPost_ret (v := .agg #[.int .i64 (3), .int .i64 (x.line), .int .i64 (x.col)]) (by simp [results, Tryz.results28, go_sem, e0, e1, e2]) rfl ⟨by rw [HW.out]; show _ = Ending.returned (faultV (wordErr t) _ _); rw [HE.out]; rfl, ⟨_, by rw [HW.out]; show Took _ _ _ _ _ _ _ _ _ (T ++ [⟨wordKind t, _, _, _, _⟩]); rw [HKD.out]; exact HK6.out⟩⟩
      · have HE : Hid (wordErr t = 0) := by unfold Hid wordErr; rw [HN.out, hg]; simp [h16]
        have h16' : (t.size : Int) ≤ 16 := by omega
        clear hg hq h16
        have HK6 := Lib.hid (HK5.out.stored (Nat.le_refl _) hbl hB hfr5 0 0 0)
        obtain ⟨e0, e1, e2, _, _, _⟩ := (hfr5.stored 0 0 0).facts
        clear hfr5 hfb5
        go_wp2
        exact bodyPost_ret (v := .agg #[.int .i64 (0), .int .i64 (0), .int .i64 (0)]) (by simp [results, Tryz.results28, go_sem, e0, e1, e2]) rfl ⟨by rw [HW.out]; show _ = Ending.returned (faultV (wordErr t) _ _); rw [HE.out]; rfl, ⟨_, by rw [HW.out]; show Took _ _ _ _ _ _ _ _ _ (T ++ [⟨wordKind t, _, _, _, _⟩]); rw [HKD.out]; exact HK6.out⟩⟩
    · have hte : (tl.toList == t.toList) = false := by
        rw [beq_bytes]
        exact decide_eq_false (fun e => by rw [hq.1 e] at hg; cases hg)
      rw [hte]
      clear hte
      have HE : Hid (wordErr t = 1) := by unfold Hid wordErr; rw [HN.out, hg]; rfl
      clear hg hq
      have HK6 := Lib.hid (HK5.out.stored (Nat.le_refl _) hbl hB hfr5 1 x.line x.col)
      obtain ⟨e0, e1, e2, _, _, _⟩ := (hfr5.stored 1 x.line x.col).facts
      clear hfr5 hfb5
      go_wp2
      exact bodyPost_ret (v := .agg #[.int .i64 (1), .int .i64 (x.line), .int .i64 (x.col)]) (by simp [results, Tryz.results28, go_sem, e0, e1, e2]) rfl ⟨by rw [HW.out]; show _ = Ending.returned (faultV (wordErr t) _ _); rw [HE.out]; rfl, ⟨_, by rw [HW.out]; show Took _ _ _ _ _ _ _ _ _ (T ++ [⟨wordKind t, _, _, _, _⟩]); rw [HKD.out]; exact HK6.out⟩⟩
  · have HN := Lib.hid hkn; clear hkn
    have HK2 := Lib.hid (HK.out.setTok (j := 0) (u := .int .i64 2) (y := ⟨2, t, 0, x.line, x.col⟩) (by omega) rfl)
    have hf2 := HFR.out.setOther (j := T.length * 5) hgb (.int .i64 2)
    obtain ⟨d0, d1, d2, d3, d4, d5⟩ := hf2.facts
    have HK3 := Lib.hid (HK2.out.stored (Nat.le_refl _) hbl hB hf2 0 0 0)
    have hf3 := (hf2.stored 0 0 0).facts
    obtain ⟨e0, e1, e2, _, _, _⟩ := hf3
    clear hf2
    go_wp2
    exact bodyPost_ret (v := .agg #[.int .i64 0, .int .i64 0, .int .i64 0]) (by simp [results, Tryz.results28, go_sem, e0, e1, e2]) rfl ⟨by rw [HW.out]; show _ = Ending.returned (faultV (wordErr t) _ _); rw [show wordErr t = 0 by unfold wordErr; rw [HN.out]; rfl]; rfl, ⟨_, by rw [HW.out]; show Took _ _ _ _ _ _ _ _ _ (T ++ [⟨wordKind t, _, _, _, _⟩]); rw [show wordKind t = 2 by unfold wordKind; rw [HN.out]; rfl]; exact HK3.out⟩⟩

end Go.Proofs.YtignjhbajjephaaGreatDoor
