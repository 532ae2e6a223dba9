/- Small lemmas on slices that read, rows that are owned, and an append of one element: of any program; no condition beyond those that each states. Plain laws of a text's runes: where each lies, and that the reference's reading of UTF-8, byte by byte, is the model's; no program in sight. -/
import Derived.Test.YthhjepgcbfmfeaaGreatDoorRows
import Derived.WalkKit
import Derived.ProofKit
import Derived.WalkSpells
import Derived.WalkLawsBesides
import Derived.Deep.QuietTactic
import Derived.BigQuiet
import Derived.Lib.Hide
import Derived.OpenShut
import Derived.Laws.RangeAny

namespace Go.Proofs.YthhjepgcbfmfeaaGreatDoor
open Go.RowKit

theorem ret_int {k : IntKind} {a b : Int} (h : a = b) : Ending.returned (.int k a) = .returned (.int k b) := by rw [h]
theorem ret_bool {a b : Bool} (h : a = b) : Ending.returned (.bool a) = .returned (.bool b) := by rw [h]
theorem int_eq {k : IntKind} {a b : Int} (h : a = b) : Value.int k a = .int k b := by rw [h]

theorem bcell {W w1 : World} (hb : Below W.heap.size W w1) : (∀ b o, b < W.heap.size → w1.cell? ⟨b, o, none⟩ = W.cell? ⟨b, o, none⟩) ∧ (∀ b o, b < W.heap.size → w1.frozen? ⟨b, o, none⟩ = W.frozen? ⟨b, o, none⟩) :=
  ⟨fun b o h => hb.cell (p := ⟨b, o, none⟩) h, fun b o h => hb.frozen (p := ⟨b, o, none⟩) h⟩

/-- a slice value whose cells read as a list: of whatever memory -/
def Reads (w : World) (v : Value) (xs : List Value) : Prop :=
  (∃ ad cap, v = .slice ad 0 cap ∧ xs = []) ∨ ∃ b off cap, v = .slice (some ⟨b, off, none⟩) xs.length cap ∧ b < w.heap.size ∧ xs.length ≤ maxLen ∧ ∀ t x, xs[t]? = some x → w.cell? ⟨b, off + t, none⟩ = some x

theorem Reads.below {w w' : World} {v : Value} {xs : List Value} (h : Reads w v xs) {B : Nat} (hB : w.heap.size ≤ B) (hb : Below B w w') : Reads w' v xs := by
  rcases h with h | ⟨b, off, cap, hv, hlt, hm, hc⟩
  · exact .inl h
  · exact .inr ⟨b, off, cap, hv, Nat.lt_of_lt_of_le hlt hb.size, hm, fun t x hx => (hb.cell (p := ⟨b, off + t, none⟩) (Nat.lt_of_lt_of_le hlt hB)).trans (hc t x hx)⟩

/-- what is owned reads -/
theorem Reads.of_owns {w : World} {base : Nat} {e : TypeId} {v : Value} {n : Nat} {xs : List Value} (h : w.ownsRow base e 1 v n xs) : Reads w v xs := by
  have hl : xs.length = n := by have := h.1; omega
  rcases h.2 with ⟨rfl, h0⟩ | ⟨g, cap, cur, rfl, hb, hg, hn, hm, hs, ht⟩
  · exact .inl ⟨none, 0, rfl, List.length_eq_zero_iff.1 (by omega)⟩
  · refine .inr ⟨g, 0, cap, by rw [hl], (Array.getElem?_eq_some_iff.1 hg).1, by omega, fun t x hx => ?_⟩
    have hc := World.ownsRow.cellAt h t (by have := (List.getElem?_eq_some_iff.1 hx).1; omega)
    rw [Nat.zero_add, hc, hx]

theorem owns_mono {w : World} {base base' : Nat} {e : TypeId} {sz : Nat} {v : Value} {n : Nat} {xs : List Value} (h : w.ownsRow base e sz v n xs) (hb : base' ≤ base) : w.ownsRow base' e sz v n xs := by
  refine ⟨h.1, ?_⟩
  rcases h.2 with h0 | ⟨g, cap, cur, hv, hbb, r⟩
  · exact .inl h0
  · exact .inr ⟨g, cap, cur, hv, by omega, r⟩

/-- owned by whoever ended at B: nothing below w's end has turned behind -/
theorem owns_below {w w' : World} {base : Nat} {e : TypeId} {sz : Nat} {v : Value} {n : Nat} {xs : List Value} (h : w.ownsRow base e sz v n xs) (hb : Below w.heap.size w w') : w'.ownsRow base e sz v n xs :=
  h.kept (row := none) ⟨hb.os, hb.tape, hb.output, hb.size, fun k hk _ => hb.block k hk⟩ (by cases hv : v.ownBlock <;> simp)

theorem below_of_grown {w w' : World} {base : Nat} {row : Option Nat} (hg : w.grownBy w' row) (hr : ∀ k, row = some k → base ≤ k) (hb : base ≤ w.heap.size) : Below base w w' :=
  (Below.refl base w).grown hg hb hr

/-- 'out = append(out, x)': one element more, whatever its size -/
theorem app1 {P : Program} {ops : Array Oper} {rest : List Oper} {o : Oper} {a : Act} {Q : Exit → Act → World → Prop} (w0 : World) (us : Array Value) (hgd : o.guard = none) (s x : Operand) (t : TypeId)
    (ho : o.op = .call { callee := .builtin .append, args := #[s, x], argTypes := #[t, t] })
    (base : Nat) (e : TypeId) (z : Value) (size bytes : Nat) (ht : P.underlying t = some (.slice e)) (hinfo : (P.info? e).map (fun i => (i.zero, i.size, i.bytes)) = some (some z, size, bytes))
    (hzs : z.cells.size = size) (hsz : 0 < size) (hby : 0 < bytes)
    (v : Value) (n : Nat) (xs : List Value) (hs : a.eval s = v) (hown : w0.ownsRow base e size v n xs)
    {z0 : Nat} (hx : a.eval x = .slice (some ⟨z0, 0, none⟩) 1 1) (hz0 : z0 = w0.heap.size) (hl : us.size = size) (h1 : ∀ u ∈ us.toList, u.oneCell' = true)
    (hbytes : (n + 1) * bytes ≤ 140737488355328) (hbase : base ≤ w0.heap.size)
    (h : ∀ v' w', w'.ownsRow base e size v' (n + 1) (xs ++ us.toList) → w0.grownBy w' v.ownBlock → Below base w0 w' → wpList P ops Q rest (a.put o.dst v') w') :
    wpList P ops Q (o :: rest) a (w0.alloc (.cells us e)) := by
  subst hz0
  obtain ⟨i, hi, hz0, hz1, hz2⟩ := info_parts hinfo
  have h63 : n + 1 ≤ maxLen := by
    have : (n + 1) * 1 ≤ (n + 1) * bytes := Nat.mul_le_mul_left _ hby
    unfold maxLen; omega
  refine wpList_append_own _ hgd s x t ho base e i z size bytes ht hi hz0 hz1 hz2 hzs hsz v n xs hs (hown.alloc _) ⟨w0.heap.size, 0, none⟩ 1 1 us.toList hx (by simp [hl]) ?_ h1 h63 hbytes (by simp; omega) ?_
  · intro j u hj
    have : (⟨w0.heap.size, 0, none⟩ : Addr).add j = ⟨w0.heap.size, j, none⟩ := by unfold Addr.add; split <;> simp_all
    rw [this, World.cell?_alloc_at _ _ _ _ rfl]
    simpa using hj
  · intro v' w' hown' hg _
    have hg0 : w0.grownBy w' v.ownBlock := by
      refine ⟨hg.os, hg.tape, hg.output, Nat.le_trans (by simp) hg.size, fun k hk hne => ?_⟩
      rw [hg.block k (by simp; omega) hne]
      exact Below.heap_alloc w0 _ k hk
    exact h v' w' hown' hg0 (below_of_grown hg0 (fun k hk => (hown.lt k hk).1) hbase)

theorem Reads.of_row {w : World} {k : IntKind} {a : Option Addr} {len cap : Nat} {zs : List Int}
    (h : (a = none ∧ len = 0 ∧ cap = 0 ∧ zs = []) ∨ ∃ x, a = some x ∧ len ≤ cap ∧ cap ≤ maxLen ∧ zs.length = cap ∧ (∀ i, i < zs.length → w.cell? (x.add i) = some (.int k (zs.getD i 0))) ∧ ∀ n ∈ zs, (Lit.int k n).wf = true) :
    Reads w (.slice a len cap) ((zs.take len).map (Value.int k)) ∧ (zs.take len).length = len ∧ ∀ n ∈ zs.take len, (Lit.int k n).wf = true := by
  rcases h with ⟨rfl, rfl, rfl, rfl⟩ | ⟨x, rfl, hl, hm, hz, hc, hw⟩
  · exact ⟨.inl ⟨_, _, rfl, rfl⟩, rfl, by simp⟩
  · have hlen : (zs.take len).length = len := by simp; omega
    refine ⟨?_, hlen, fun n hn => hw n (List.mem_of_mem_take hn)⟩
    by_cases h0 : len = 0
    · subst h0; exact .inl ⟨_, _, rfl, by simp⟩
    · obtain ⟨b, off, rfl, hc'⟩ := ints_at hc (by omega)
      refine .inr ⟨b, off, cap, by rw [List.length_map, hlen], World.block_lt_of_cell? w _ (hc' 0 (by omega)), by simp; omega, fun t u hu => ?_⟩
      have ht : t < len := by have := (List.getElem?_eq_some_iff.1 hu).1; simp at this; omega
      rw [hc' t (by omega)]
      simp only [List.getElem?_map, List.getElem?_take, ht, if_true] at hu
      rw [List.getD_eq_getElem?_getD]
      rw [List.getElem?_eq_getElem (by omega)] at hu ⊢
      simpa using hu

theorem owns_shape {w : World} {base : Nat} {e : TypeId} {sz : Nat} {v : Value} {n : Nat} {xs : List Value} (h : w.ownsRow base e sz v n xs) (hn : 0 < n) :
    ∃ g cap, v = .slice (some ⟨g, 0, none⟩) n cap ∧ base ≤ g ∧ g < w.heap.size := by
  rcases h.2 with ⟨_, h0⟩ | ⟨g, cap, cur, hv, hb, hg, _⟩
  · omega
  · exact ⟨g, cap, hv, hb, (Array.getElem?_eq_some_iff.1 hg).1⟩

theorem owns_len {w : World} {base : Nat} {e : TypeId} {sz : Nat} {v : Value} {n : Nat} {xs : List Value} (h : w.ownsRow base e sz v n xs) : ∃ ad cap, v = .slice ad n cap := by
  rcases h.2 with ⟨rfl, h0⟩ | ⟨g, cap, cur, rfl, _⟩
  · exact ⟨none, 0, by rw [h0]⟩
  · exact ⟨_, _, rfl⟩

end Go.Proofs.YthhjepgcbfmfeaaGreatDoor

namespace Go.Proofs.YthhjepgcbfmfeaaGreatDoor
open Go.RowKit

/-- a rune as a range over a string tells it, or its place taken by a byte that begins none: -1 -/
def decR (s : ByteArray) (i : Nat) : Int := if (Utf8.decode s i).1 = 65533 ∧ (Utf8.decode s i).2 = 1 then -1 else ((Utf8.decode s i).1 : Int)
def decN (s : ByteArray) (i : Nat) : Nat := (Utf8.decode s i).2

theorem dec_cases (s : ByteArray) (i : Nat) : ((Utf8.decode s i).2 = 1 ∧ ((Utf8.decode s i).1 < 128 ∨ (Utf8.decode s i).1 = 65533)) ∨ ((Utf8.decode s i).2 = 2 ∧ i + 1 < s.size ∧ 128 ≤ (Utf8.decode s i).1) ∨ ((Utf8.decode s i).2 = 3 ∧ i + 2 < s.size ∧ 128 ≤ (Utf8.decode s i).1) ∨ ((Utf8.decode s i).2 = 4 ∧ i + 3 < s.size ∧ 128 ≤ (Utf8.decode s i).1) := by
  simp only [Utf8.decode]
  repeat' split
  all_goals simp_all [Utf8.runeError]
  all_goals omega

theorem decN_pos (s : ByteArray) (i : Nat) : 1 ≤ decN s i := by
  unfold decN
  rcases dec_cases s i with h | h | h | h <;> omega

theorem decN_le (s : ByteArray) (i : Nat) (hi : i < s.size) : i + decN s i ≤ s.size := by
  unfold decN
  rcases dec_cases s i with h | h | h | h <;> omega

theorem decR_bd (s : ByteArray) (i : Nat) : -1 ≤ decR s i ∧ decR s i ≤ 2147483647 := by
  unfold decR
  have := decode_le s i
  split <;> omega

/-- a rune, its bytes, its place -/
structure Rn where
  r : Int
  fr : Nat
  to : Nat
  line : Int
  col : Int

def nextLine (r line : Int) : Int := if r = 10 then line + 1 else line
def nextCol (r col : Int) : Int := if r = 10 then 1 else col + 1

/-- the runes from a byte on; g tells what stands at a byte -/
def runesAt (g : Nat → Int) (s : ByteArray) : Nat → Nat → Int → Int → List Rn
  | 0, _, _, _ => []
  | k + 1, p, line, col =>
    if p < s.size then ⟨g p, p, p + decN s p, line, col⟩ :: runesAt g s k (p + decN s p) (nextLine (g p) line) (nextCol (g p) col) else []

theorem runesAt_more (g : Nat → Int) (s : ByteArray) (k p : Nat) (line col : Int) (h : s.size ≤ p + k) : runesAt g s (k + 1) p line col = runesAt g s k p line col := by
  induction k generalizing p line col with
  | zero => simp only [runesAt]; rw [if_neg (by omega)]
  | succ k ih =>
    by_cases hp : p < s.size
    · have := decN_pos s p
      rw [runesAt]
      conv => rhs; rw [runesAt]
      rw [if_pos hp, if_pos hp, ih _ _ _ (by omega)]
    · rw [runesAt]; conv => rhs; rw [runesAt]
      rw [if_neg hp, if_neg hp]

theorem runesAt_eq (g : Nat → Int) (s : ByteArray) (k j p : Nat) (line col : Int) (h : s.size ≤ p + k) (h' : s.size ≤ p + j) : runesAt g s k p line col = runesAt g s j p line col := by
  have key : ∀ d m, s.size ≤ p + m → runesAt g s (m + d) p line col = runesAt g s m p line col := by
    intro d
    induction d with
    | zero => intro m _; rfl
    | succ d ih => intro m hm; rw [← Nat.add_assoc, runesAt_more g s (m + d) p line col (by omega), ih m hm]
  rcases Nat.le_total k j with hkj | hkj
  · have := key (j - k) k h; rw [show k + (j - k) = j by omega] at this; exact this.symm
  · have := key (k - j) j h'; rw [show j + (k - j) = k by omega] at this; exact this

/-- all runes from a byte on -/
def restG (g : Nat → Int) (s : ByteArray) (p : Nat) (line col : Int) : List Rn := runesAt g s (s.size - p) p line col

theorem restG_cons (g : Nat → Int) (s : ByteArray) (p : Nat) (line col : Int) (h : p < s.size) :
    restG g s p line col = ⟨g p, p, p + decN s p, line, col⟩ :: restG g s (p + decN s p) (nextLine (g p) line) (nextCol (g p) col) := by
  unfold restG
  obtain ⟨k, hk⟩ : ∃ k, s.size - p = k + 1 := ⟨s.size - p - 1, by omega⟩
  rw [hk, runesAt, if_pos h]
  congr 1
  have := decN_pos s p
  exact runesAt_eq g s _ _ _ _ _ (by omega) (by omega)

theorem restG_nil (g : Nat → Int) (s : ByteArray) (p : Nat) (line col : Int) (h : ¬ p < s.size) : restG g s p line col = [] := by
  unfold restG
  rw [show s.size - p = 0 by omega]; rfl

/-- what a range over a string tells -/
def rawR (s : ByteArray) (i : Nat) : Int := ((Utf8.decode s i).1 : Int)
def Rn.fix (x : Rn) : Rn := { x with r := if x.r = 65533 ∧ x.to = x.fr + 1 then -1 else x.r }

theorem raw_ten (s : ByteArray) (i : Nat) : (rawR s i = 10) = (decR s i = 10) := by
  unfold rawR decR
  apply propext
  split <;> omega

theorem restG_fix (s : ByteArray) (k p : Nat) (line col : Int) : (runesAt (rawR s) s k p line col).map Rn.fix = runesAt (decR s) s k p line col := by
  induction k generalizing p line col with
  | zero => rfl
  | succ k ih =>
    simp only [runesAt]
    by_cases hp : p < s.size
    · rw [if_pos hp, if_pos hp, List.map_cons, ih]
      have e1 : nextLine (rawR s p) line = nextLine (decR s p) line := by unfold nextLine; simp only [raw_ten]
      have e2 : nextCol (rawR s p) col = nextCol (decR s p) col := by unfold nextCol; simp only [raw_ten]
      rw [e1, e2]
      congr 1
      unfold Rn.fix decR rawR decN
      simp only [Rn.mk.injEq, and_true]
      by_cases h : (Utf8.decode s p).1 = 65533 ∧ (Utf8.decode s p).2 = 1
      · rw [if_pos h, if_pos (by omega)]
      · rw [if_neg h, if_neg (by omega)]
    · rw [if_neg hp, if_neg hp]; rfl

def allR (s : ByteArray) : List Rn := restG (decR s) s 0 1 1
def allRaw (s : ByteArray) : List Rn := restG (rawR s) s 0 1 1
theorem all_fix (s : ByteArray) : (allRaw s).map Rn.fix = allR s := restG_fix s _ _ _ _

theorem restG_len (g : Nat → Int) (s : ByteArray) (p : Nat) (line col : Int) : (restG g s p line col).length ≤ s.size - p := by
  unfold restG
  generalize s.size - p = k
  induction k generalizing p line col with
  | zero => simp [runesAt]
  | succ k ih =>
    simp only [runesAt]
    split
    · simp only [List.length_cons]; exact Nat.succ_le_succ (ih _ _ _)
    · simp

def rnCells (k : IntKind) (x : Rn) : List Value := [.int k x.r, .int .i64 x.fr, .int .i64 x.to, .int .i64 x.line, .int .i64 x.col]
def rnFlat (k : IntKind) (l : List Rn) : List Value := l.flatMap (rnCells k)
theorem rnFlat_len (k : IntKind) (l : List Rn) : (rnFlat k l).length = l.length * 5 := by
  induction l with
  | nil => rfl
  | cons x r ih => simp only [rnFlat, List.flatMap_cons, List.length_append, List.length_cons] at *; rw [ih]; simp [rnCells]; omega
theorem rnFlat_snoc (k : IntKind) (l : List Rn) (x : Rn) : rnFlat k (l ++ [x]) = rnFlat k l ++ rnCells k x := by simp [rnFlat]
theorem rnFlat_append (k : IntKind) (l m : List Rn) : rnFlat k (l ++ m) = rnFlat k l ++ rnFlat k m := by simp [rnFlat]
theorem rnFlat_cons (k : IntKind) (x : Rn) (l : List Rn) : rnFlat k (x :: l) = rnCells k x ++ rnFlat k l := by simp [rnFlat]

theorem rnFlat_get (k : IntKind) (l : List Rn) (i j : Nat) (x : Rn) (hx : l[i]? = some x) (hj : j < 5) : (rnFlat k l)[i * 5 + j]? = (rnCells k x)[j]? := by
  induction l generalizing i with
  | nil => simp at hx
  | cons y r ih =>
    rw [rnFlat_cons]
    cases i with
    | zero =>
      simp only [List.getElem?_cons_zero, Option.some.injEq] at hx
      subst hx
      rw [Nat.zero_mul, Nat.zero_add, List.getElem?_append_left (by simp [rnCells]; omega)]
    | succ i =>
      rw [List.getElem?_append_right (by simp [rnCells]; omega)]
      rw [show (i + 1) * 5 + j - (rnCells k y).length = i * 5 + j by simp [rnCells]; omega]
      exact ih i (by simpa using hx)

theorem rnFlat_set (k : IntKind) (l : List Rn) (i j : Nat) (x y : Rn) (v : Value) (hx : l[i]? = some x) (hj : j < 5) (hy : (rnCells k x).set j v = rnCells k y) : (rnFlat k l).set (i * 5 + j) v = rnFlat k (l.set i y) := by
  induction l generalizing i with
  | nil => simp at hx
  | cons z r ih =>
    rw [rnFlat_cons]
    cases i with
    | zero =>
      simp only [List.getElem?_cons_zero, Option.some.injEq] at hx
      subst hx
      rw [Nat.zero_mul, Nat.zero_add, List.set_append_left _ _ (by simp [rnCells]; omega), hy, List.set_cons_zero, rnFlat_cons]
    | succ i =>
      rw [List.set_append_right _ _ (by simp [rnCells]; omega)]
      rw [show (i + 1) * 5 + j - (rnCells k z).length = i * 5 + j by simp [rnCells]; omega]
      rw [ih i (by simpa using hx), List.set_cons_succ, rnFlat_cons]

end Go.Proofs.YthhjepgcbfmfeaaGreatDoor
