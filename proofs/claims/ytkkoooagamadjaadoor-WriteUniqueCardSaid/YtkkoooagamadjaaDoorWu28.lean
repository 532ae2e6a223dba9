/- A zone that came in, opened. Rows of whatever elements, wherever they lie; and how they are opened where they came in. Arguments: rows of zones, rows of numbers of 64 bits, three numbers. 'warder/warderlaw25.WriteUnique' returns true for every input and leaves its arguments as they were; no condition. The row lists package-level variables of Go's library with what they hold at the start; the card ties them to the program's text. -/
import Derived.Test.YtkkoooagamadjaaDoorWu11
import Derived.Deep.Slices
import Derived.ChangeArms
import Derived.OpenShut
import Derived.Test.YtkkoooagamadjaaDoorWu01
import Derived.Test.YtkkoooagamadjaaDoorWu23
import Derived.Test.YtkkoooagamadjaaDoorWu27
import Derived.Test.YtkkoooagamadjaaDoorCards
import Derived.Test.YtkkoooagamadjaaDoorTie
import Derived.Test.YtkkoooagamadjaaDoorShelf
import Derived.WalkKit
import Derived.ProofKit
import Derived.ChangeOld
import Derived.Below
import Derived.ShutString
import Derived.Deep.DeepHandedRow
import Derived.Lay
import Derived.Stop.Joined
import Derived.Stop.LaidErr
import Derived.MakeChecks
import Derived.SizedLaws

namespace Go.Proofs.YtkkoooagamadjaaDoor
open Go.RowKit Go.ChangeShapes Go.WideShapes Go.Deep

section
variable {H : Type} {enc : TypeId × Value → H} {w : World} {base : Nat} {sp : Nat → Bool} {hd : Bool}

theorem celz_int : Tryd.prog.cellsOf 3 = 1 := by kernel_rfl
theorem celz_cls : Tryd.prog.cellsOf 42 = 2 := by kernel_rfl
theorem celz_zone : Tryd.prog.cellsOf 26 = 2 := by kernel_rfl
theorem celz_cs : Tryd.prog.cellsOf 23 = 1 := by kernel_rfl
theorem celz_is : Tryd.prog.cellsOf 24 = 1 := by kernel_rfl

def In64 (x : Int) : Prop := -9223372036854775808 ≤ x ∧ x ≤ 9223372036854775807
def ClsOK (c : Int × Int) : Prop := In64 c.1 ∧ In64 c.2

set_option maxRecDepth 100000 in
theorem opz_cls {fuel : Nat} {cs : List Value} {x : DataW H × List MemPlace} (h : DataW.trod enc Tryd.prog w base sp hd fuel 42 cs = some x) : ∃ c : Int × Int, cs = [.int .i64 c.1, .int .i64 c.2] ∧ ClsOK c := by
  obtain ⟨xs, n, _, _, hlen, hxl, hf⟩ := DataW.trod_struct Tryd.underlying42 h
  rw [celz_cls] at hlen
  match cs, hlen with
  | [v0, v1], _ =>
    have hx0 := List.getElem?_eq_getElem (show 0 < xs.length by rw [hxl]; decide)
    have hx1 := List.getElem?_eq_getElem (show 1 < xs.length by rw [hxl]; decide)
    have g0 : DataW.trod enc Tryd.prog w base sp hd n 3 (([v0, v1].drop 0).take (Tryd.prog.cellsOf 3)) = xs[0]? := hf 0 _ rfl
    have g1 : DataW.trod enc Tryd.prog w base sp hd n 3 (([v0, v1].drop 1).take (Tryd.prog.cellsOf 3)) = xs[1]? := hf 1 _ rfl
    rw [hx0] at g0; rw [hx1] at g1
    simp only [celz_int, List.drop, List.take] at g0 g1
    obtain ⟨a, e0, _, w0⟩ := DataW.trod_int Tryd.underlying3 g0
    obtain ⟨b, e1, _, w1⟩ := DataW.trod_int Tryd.underlying3 g1
    simp only [List.cons.injEq, and_true] at e0 e1
    exact ⟨(a, b), by rw [e0, e1], bounds_i64 w0, bounds_i64 w1⟩

set_option maxRecDepth 100000 in
theorem opz_cs {fuel : Nat} {ad : Option Addr} {n cap : Nat} {x : DataW H × List MemPlace} (h : DataW.trod enc Tryd.prog w base sp hd fuel 23 [.slice ad n cap] = some x) :
    ∃ T : List (Int × Int), T.length = n ∧ RdK w 2 (.slice ad n cap) n (cellsP T) ∧ n ≤ cap ∧ ∀ y ∈ T, ClsOK y := by
  rcases open_slice Tryd.underlying23 h with ⟨he, _⟩ | ⟨a, len, c, m, k, D, Pl, he, hb, hl, hm, hmm, hx, hall⟩
  · simp only [List.cons.injEq, Value.slice.injEq, and_true] at he
    obtain ⟨rfl, rfl, rfl⟩ := he
    exact ⟨[], rfl, ⟨none, 0, rfl, rfl, .inl rfl⟩, Nat.le_refl _, fun y hy => by cases hy⟩
  · simp only [List.cons.injEq, Value.slice.injEq, and_true] at he
    obtain ⟨rfl, rfl, rfl⟩ := he
    have hnm : n ≤ m := by rw [hmm]; split <;> omega
    have each : ∀ i, i < n → ∃ t : Int × Int, ClsOK t ∧ w.cell? (a.add (i * 2)) = some (.int .i64 t.1) ∧ w.cell? (a.add (i * 2 + 1)) = some (.int .i64 t.2) := by
      intro i hi
      obtain ⟨cs, h1, h2⟩ := hall i (by omega)
      rw [celz_cls] at h1
      obtain ⟨t, rfl, hnum⟩ := opz_cls h2
      obtain ⟨_, hlen, hcell⟩ := World.cells?_some h1
      refine ⟨t, hnum, ?_, ?_⟩
      · have := hcell 0 (by decide)
        rw [add_add] at this
        exact this
      · have := hcell 1 (by decide)
        rw [add_add] at this
        exact this
    obtain ⟨t, ht⟩ := choose_lt each
    by_cases h0 : n = 0
    · subst h0
      exact ⟨[], rfl, ⟨_, cap, rfl, rfl, .inl rfl⟩, hl, fun y hy => by cases hy⟩
    have hz := (ht 0 (by omega)).2.1
    obtain ⟨b, off, spot⟩ := a
    have hspot : spot = none := by simpa [Addr.add] using World.cell?_spot hz
    subst hspot
    have hadd : ∀ i, (⟨b, off, none⟩ : Addr).add i = ⟨b, off + i, none⟩ := fun i => by unfold Addr.add; split <;> simp_all
    refine ⟨(List.range n).map t, by simp, ⟨_, cap, rfl, by rw [cellsP_len]; simp, .inr ⟨b, off, rfl, World.block_lt_of_cell? w _ (by rw [hadd] at hz; exact hz), fun j y hy => ?_⟩⟩, hl, ?_⟩
    · have hj := (List.getElem?_eq_some_iff.1 hy).1
      rw [cellsP_len, List.length_map, List.length_range] at hj
      obtain ⟨i, hi, e⟩ : ∃ i, i < n ∧ (j = i * 2 ∨ j = i * 2 + 1) := ⟨j / 2, by omega, by omega⟩
      have hg : ((List.range n).map t)[i]? = some ((t i).1, (t i).2) := by simp [hi]
      obtain ⟨q1, q2⟩ := cellsP_get _ _ _ hg
      obtain ⟨_, e1, e2⟩ := ht i hi
      rw [hadd] at e1 e2
      rcases e with rfl | rfl
      · exact e1.trans (q1.symm.trans hy)
      · exact e2.trans (q2.symm.trans hy)
    · intro y hy
      obtain ⟨i, hi, rfl⟩ := List.mem_map.1 hy
      exact (ht i (by simpa using hi)).1

set_option maxRecDepth 100000 in
theorem opz_is {fuel : Nat} {ad : Option Addr} {n cap : Nat} {x : DataW H × List MemPlace} (h : DataW.trod enc Tryd.prog w base sp hd fuel 24 [.slice ad n cap] = some x) :
    ∃ T : List Int, T.length = n ∧ RdK w 1 (.slice ad n cap) n (ints T) ∧ ∀ y ∈ T, In64 y := by
  rcases open_slice Tryd.underlying24 h with ⟨he, _⟩ | ⟨a, len, c, m, k, D, Pl, he, hb, hl, hm, hmm, hx, hall⟩
  · simp only [List.cons.injEq, Value.slice.injEq, and_true] at he
    obtain ⟨rfl, rfl, rfl⟩ := he
    exact ⟨[], rfl, ⟨none, 0, rfl, rfl, .inl rfl⟩, fun y hy => by cases hy⟩
  · simp only [List.cons.injEq, Value.slice.injEq, and_true] at he
    obtain ⟨rfl, rfl, rfl⟩ := he
    have hnm : n ≤ m := by rw [hmm]; split <;> omega
    have each : ∀ i, i < n → ∃ t : Int, In64 t ∧ w.cell? (a.add i) = some (.int .i64 t) := by
      intro i hi
      obtain ⟨cs, h1, h2⟩ := hall i (by omega)
      rw [celz_int] at h1
      obtain ⟨t, rfl, _, wf⟩ := DataW.trod_int Tryd.underlying3 h2
      obtain ⟨_, hlen, hcell⟩ := World.cells?_some h1
      have := hcell 0 (by decide)
      rw [Nat.mul_one] at this
      refine ⟨t, bounds_i64 wf, ?_⟩
      rw [show (a.add i).add 0 = a.add i by rw [add_add, Nat.add_zero]] at this
      exact this
    obtain ⟨t, ht⟩ := choose_lt each
    by_cases h0 : n = 0
    · subst h0
      exact ⟨[], rfl, ⟨_, cap, rfl, rfl, .inl rfl⟩, fun y hy => by cases hy⟩
    have hz := (ht 0 (by omega)).2
    obtain ⟨b, off, spot⟩ := a
    have hspot : spot = none := by simpa [Addr.add] using World.cell?_spot hz
    subst hspot
    have hadd : ∀ i, (⟨b, off, none⟩ : Addr).add i = ⟨b, off + i, none⟩ := fun i => by unfold Addr.add; split <;> simp_all
    refine ⟨(List.range n).map t, by simp, ⟨_, cap, rfl, by simp [ints], .inr ⟨b, off, rfl, World.block_lt_of_cell? w _ (by rw [hadd] at hz; exact hz), fun j y hy => ?_⟩⟩, ?_⟩
    · have hi : j < n := by have := (List.getElem?_eq_some_iff.1 hy).1; simpa [ints] using this
      have e := (ht j hi).2
      rw [hadd] at e
      simp [ints, hi] at hy
      rw [e, hy]
    · intro y hy
      obtain ⟨i, hi, rfl⟩ := List.mem_map.1 hy
      exact (ht i (by simpa using hi)).1

set_option maxRecDepth 100000 in
/-- a zone that came in -/
theorem open_zone {fuel : Nat} {cs : List Value} {x : DataW H × List MemPlace} (h : DataW.trod enc Tryd.prog w base sp hd fuel 26 cs = some x) :
    ∃ v1 v2 cl gl, cs = [v1, v2] ∧ ZoneIn w v1 v2 cl gl ∧ (∀ ad n c, v1 = .slice ad n c → n ≤ c) ∧ (∀ c ∈ cl, ClsOK c) ∧ ∀ g ∈ gl, In64 g := by
  obtain ⟨xs, n, _, _, hlen, hxl, hf⟩ := DataW.trod_struct Tryd.underlying26 h
  rw [celz_zone] at hlen
  match cs, hlen with
  | [v0, v1], _ =>
    have hx0 := List.getElem?_eq_getElem (show 0 < xs.length by rw [hxl]; decide)
    have hx1 := List.getElem?_eq_getElem (show 1 < xs.length by rw [hxl]; decide)
    have g0 : DataW.trod enc Tryd.prog w base sp hd n 23 (([v0, v1].drop 0).take (Tryd.prog.cellsOf 23)) = xs[0]? := hf 0 _ rfl
    have g1 : DataW.trod enc Tryd.prog w base sp hd n 24 (([v0, v1].drop 1).take (Tryd.prog.cellsOf 24)) = xs[1]? := hf 1 _ rfl
    rw [hx0] at g0; rw [hx1] at g1
    simp only [celz_cs, celz_is, List.drop, List.take] at g0 g1
    have f0 : ∃ ad n cap, v0 = .slice ad n cap := by
      rcases open_slice Tryd.underlying23 g0 with ⟨he, _⟩ | ⟨a, len, c, m, k, D, Pl, he, _⟩
      · simp only [List.cons.injEq, and_true] at he; exact ⟨_, _, _, he⟩
      · simp only [List.cons.injEq, and_true] at he; exact ⟨_, _, _, he⟩
    have f1 : ∃ ad n cap, v1 = .slice ad n cap := by
      rcases open_slice Tryd.underlying24 g1 with ⟨he, _⟩ | ⟨a, len, c, m, k, D, Pl, he, _⟩
      · simp only [List.cons.injEq, and_true] at he; exact ⟨_, _, _, he⟩
      · simp only [List.cons.injEq, and_true] at he; exact ⟨_, _, _, he⟩
    obtain ⟨ad0, n0, cap0, rfl⟩ := f0
    obtain ⟨ad1, n1, cap1, rfl⟩ := f1
    obtain ⟨cl, hl0, r0, hc0, hb0⟩ := opz_cs g0
    obtain ⟨gl, hl1, r1, hb1⟩ := opz_is g1
    exact ⟨_, _, cl, gl, rfl, ⟨by rw [hl0]; exact r0, by rw [hl1]; exact r1⟩, fun ad n c e => by cases e; exact hc0, hb0, hb1⟩
end
end Go.Proofs.YtkkoooagamadjaaDoor

namespace Go.Proofs.YtkkoooagamadjaaDoor
open Go.RowKit Go.ChangeShapes Go.WideShapes Go.Deep

/-- what an element's cells are, in a world -/
abbrev ElE (α : Type) := World → α → List Value → Prop
/-- it stays where nothing older turns -/
def KeepE {α : Type} (E : ElE α) : Prop := ∀ (w w' : World) (a : α) (cs : List Value), E w a cs → Below w.heap.size w w' → E w' a cs

/-- a slice of elements of k cells, wherever it lies -/
def RowE {α : Type} (E : ElE α) (k : Nat) (w : World) (v : Value) (T : List α) : Prop :=
  ∃ ad cap, v = .slice ad T.length cap ∧ ((ad = none → cap = 0) ∧ T.length ≤ cap ∧ cap ≤ maxLen) ∧ (T = [] ∨ ∃ b off, ad = some ⟨b, off, none⟩ ∧ b < w.heap.size ∧ ∀ i a, T[i]? = some a → ∃ cs : List Value, cs.length = k ∧ E w a cs ∧ ∀ j u, cs[j]? = some u → w.cell? ⟨b, off + i * k + j, none⟩ = some u)
theorem RowE.below {α : Type} {E : ElE α} {k : Nat} {w w' : World} {v : Value} {T : List α} (h : RowE E k w v T) (hE : KeepE E) (hb : Below w.heap.size w w') : RowE E k w' v T := by
  obtain ⟨ad, cap, hv, hz, h⟩ := h
  refine ⟨ad, cap, hv, hz, ?_⟩
  rcases h with h | ⟨b, off, ha, hg, hc⟩
  · exact .inl h
  · refine .inr ⟨b, off, ha, Nat.lt_of_lt_of_le hg hb.size, fun i a hi => ?_⟩
    obtain ⟨cs, h1, h2, h3⟩ := hc i a hi
    exact ⟨cs, h1, hE _ _ _ _ h2 hb, fun j u hu => (hb.cell (p := ⟨b, off + i * k + j, none⟩) hg).trans (h3 j u hu)⟩
theorem RowE.len {α : Type} {E : ElE α} {k : Nat} {w : World} {v : Value} {T : List α} (h : RowE E k w v T) : ∃ ad cap, v = .slice ad T.length cap := by
  obtain ⟨ad, cap, hv, _⟩ := h; exact ⟨ad, cap, hv⟩
theorem RowE.max {α : Type} {E : ElE α} {k : Nat} {w : World} {v : Value} {T : List α} (h : RowE E k w v T) : T.length ≤ 9223372036854775807 := by
  obtain ⟨ad, cap, _, ⟨_, h1, h2⟩, _⟩ := h; unfold maxLen at h2; omega
theorem RowE.at {α : Type} {E : ElE α} {k : Nat} {w : World} {v : Value} {T : List α} (h : RowE E k w v T) {i : Nat} {a : α} (hi : T[i]? = some a) :
    ∃ b off cap cs, v = .slice (some ⟨b, off, none⟩) T.length cap ∧ b < w.heap.size ∧ cs.length = k ∧ E w a cs ∧ ∀ j u, cs[j]? = some u → w.cell? ⟨b, off + i * k + j, none⟩ = some u := by
  obtain ⟨ad, cap, rfl, _, h⟩ := h
  rcases h with rfl | ⟨b, off, rfl, hg, hc⟩
  · simp at hi
  · obtain ⟨cs, h1, h2, h3⟩ := hc i a hi
    exact ⟨b, off, cap, cs, rfl, hg, h1, h2, h3⟩
theorem RowE.nil {α : Type} (E : ElE α) (k : Nat) (w : World) : RowE E k w (.slice none 0 0) [] := ⟨none, 0, rfl, ⟨fun _ => rfl, Nat.le_refl _, by unfold maxLen; omega⟩, .inl rfl⟩

/-- strings, numbers -/
def strE : ElE ByteArray := fun _ s cs => cs = [.string s]
def intE : ElE Int := fun _ n cs => cs = [.int .i64 n]
theorem strE_keep : KeepE strE := fun _ _ _ _ h _ => h
theorem intE_keep : KeepE intE := fun _ _ _ _ h _ => h
theorem RowE.str {w : World} {v : Value} {T : List ByteArray} (h : RowE strE 1 w v T) {i : Nat} {s : ByteArray} (hi : T[i]? = some s) :
    ∃ b off cap, v = .slice (some ⟨b, off, none⟩) T.length cap ∧ b < w.heap.size ∧ w.cell? ⟨b, off + i, none⟩ = some (.string s) := by
  obtain ⟨b, off, cap, cs, hv, hb, _, he, hc⟩ := h.at hi
  subst he
  exact ⟨b, off, cap, hv, hb, by have := hc 0 _ rfl; rwa [Nat.mul_one, Nat.add_zero] at this⟩
theorem RowE.int {w : World} {v : Value} {T : List Int} (h : RowE intE 1 w v T) {i : Nat} {n : Int} (hi : T[i]? = some n) :
    ∃ b off cap, v = .slice (some ⟨b, off, none⟩) T.length cap ∧ b < w.heap.size ∧ w.cell? ⟨b, off + i, none⟩ = some (.int .i64 n) := by
  obtain ⟨b, off, cap, cs, hv, hb, _, he, hc⟩ := h.at hi
  subst he
  exact ⟨b, off, cap, hv, hb, by have := hc 0 _ rfl; rwa [Nat.mul_one, Nat.add_zero] at this⟩

section
variable {H : Type} {enc : TypeId × Value → H} {w : World} {base : Nat} {sp : Nat → Bool} {hd : Bool}

/-- a slice that came in is a row -/
theorem open_rowE {α : Type} (E : ElE α) (k : Nat) (p : α → Prop) {t e : TypeId} (ht : Tryd.prog.underlying t = some (.slice e)) (hk : Tryd.prog.cellsOf e = k) (hk0 : 0 < k)
    (hE : ∀ (fuel : Nat) (cs : List Value) (x : DataW H × List MemPlace), cs.length = k → DataW.trod enc Tryd.prog w base sp hd fuel e cs = some x → ∃ a, E w a cs ∧ p a)
    {fuel : Nat} {v : Value} {x : DataW H × List MemPlace} (h : DataW.trod enc Tryd.prog w base sp hd fuel t [v] = some x) :
    ∃ T : List α, RowE E k w v T ∧ ∀ a ∈ T, p a := by
  rcases open_slice ht h with ⟨he, _⟩ | ⟨a, len, c, m, kk, D, Pl, he, hb, hl, hm, hmm, hx, hall⟩
  · simp only [List.cons.injEq, and_true] at he
    subst he
    exact ⟨[], RowE.nil _ _ _, fun y hy => by cases hy⟩
  · simp only [List.cons.injEq, and_true] at he
    subst he
    by_cases h0 : len = 0
    · subst h0
      exact ⟨[], ⟨_, c, rfl, ⟨fun e => (by cases e), hl, hm⟩, .inl rfl⟩, fun y hy => by cases hy⟩
    have hnm : len ≤ m := by rw [hmm]; split <;> omega
    have each : ∀ i, i < len → ∃ q : α × List Value, q.2.length = k ∧ E w q.1 q.2 ∧ p q.1 ∧ ∀ j u, q.2[j]? = some u → w.cell? (a.add (i * k + j)) = some u := by
      intro i hi
      obtain ⟨cs, h1, h2⟩ := hall i (by omega)
      rw [hk] at h1
      obtain ⟨_, hlen, hcell⟩ := World.cells?_some h1
      obtain ⟨y, e1, e2⟩ := hE _ _ _ hlen h2
      refine ⟨(y, cs), hlen, e1, e2, fun j u hu => ?_⟩
      have hj := (List.getElem?_eq_some_iff.1 hu).1
      have := hcell j (by dsimp only at hj; omega)
      rw [add_add] at this
      rw [this]; exact hu
    haveI : Inhabited (α × List Value) := ⟨(each 0 (by omega)).choose⟩
    obtain ⟨q, hq⟩ := choose_lt each
    obtain ⟨l0, _, _, c0⟩ := hq 0 (by omega)
    have hz := c0 0 _ (List.getElem?_eq_getElem (by omega))
    obtain ⟨b, off, spot⟩ := a
    have hspot : spot = none := by simpa [Addr.add] using World.cell?_spot hz
    subst hspot
    have hadd : ∀ i, (⟨b, off, none⟩ : Addr).add i = ⟨b, off + i, none⟩ := fun i => by unfold Addr.add; split <;> simp_all
    refine ⟨(List.range len).map fun i => (q i).1, ⟨_, c, by simp, ⟨fun e => (by cases e), by simpa using hl, hm⟩, .inr ⟨b, off, rfl, World.block_lt_of_cell? w _ (by rw [hadd] at hz; exact hz), fun i y hy => ?_⟩⟩, ?_⟩
    · have hi : i < len := by have := (List.getElem?_eq_some_iff.1 hy).1; simpa using this
      have hy' : y = (q i).1 := by simpa [hi] using hy.symm
      subst hy'
      obtain ⟨e1, e2, _, e4⟩ := hq i hi
      refine ⟨_, e1, e2, fun j u hu => ?_⟩
      have := e4 j u hu
      rw [hadd] at this
      rw [Nat.add_assoc]; exact this
    · intro y hy
      obtain ⟨i, hi, rfl⟩ := List.mem_map.1 hy
      exact (hq i (by simpa using hi)).2.2.1
theorem open_rowE' {α : Type} (E : ElE α) (k : Nat) (p : α → Prop) {t e : TypeId} (ht : Tryd.prog.underlying t = some (.slice e)) (hk : Tryd.prog.cellsOf e = k) (hk0 : 0 < k)
    (hE : ∀ (fuel : Nat) (cs : List Value) (x : DataW H × List MemPlace), cs.length = k → DataW.trod enc Tryd.prog w base sp hd fuel e cs = some x → ∃ a, E w a cs ∧ p a)
    {fuel : Nat} {cs : List Value} (hc : cs.length = 1) {x : DataW H × List MemPlace} (h : DataW.trod enc Tryd.prog w base sp hd fuel t cs = some x) :
    ∃ v, cs = [v] ∧ ∃ T : List α, RowE E k w v T ∧ ∀ a ∈ T, p a := by
  match cs, hc with
  | [v], _ => exact ⟨v, rfl, open_rowE E k p ht hk hk0 hE h⟩
end
end Go.Proofs.YtkkoooagamadjaaDoor

namespace Go.Proofs.YtkkoooagamadjaaDoor
open Go.RowKit Go.ChangeShapes Go.WideShapes Go.Deep

def zoneE : ElE Zn := fun w z cs => ∃ v1 v2, cs = [v1, v2] ∧ ZoneIn w v1 v2 z.1 z.2
theorem ZIs.of_rowE {w : World} {v : Value} {zs : List Zn} (h : RowE zoneE 2 w v zs) : ZIs w v zs := by
  obtain ⟨ad, cap, rfl, _, h⟩ := h
  rcases h with rfl | ⟨b, off, rfl, hb, hc⟩
  · exact ⟨[], rfl, ⟨ad, cap, rfl, rfl, .inl rfl⟩, fun i p z h => by simp at h⟩
  · have each : ∀ i, i < zs.length → ∃ q : Value × Value, ∀ z, zs[i]? = some z → ZoneIn w q.1 q.2 z.1 z.2 ∧ w.cell? ⟨b, off + i * 2, none⟩ = some q.1 ∧ w.cell? ⟨b, off + i * 2 + 1, none⟩ = some q.2 := by
      intro i hi
      obtain ⟨cs, _, ⟨v1, v2, e, hz⟩, hcell⟩ := hc i _ (List.getElem?_eq_getElem hi)
      subst e
      refine ⟨(v1, v2), fun z hz2 => ?_⟩
      rw [List.getElem?_eq_getElem hi] at hz2
      cases hz2
      exact ⟨hz, hcell 0 _ rfl, hcell 1 _ rfl⟩
    haveI : Inhabited (Value × Value) := ⟨(.slice none 0 0, .slice none 0 0)⟩
    obtain ⟨q, hq⟩ := choose_lt each
    have hg : ∀ i, i < zs.length → ((List.range zs.length).map q)[i]? = some (q i) := fun i hi => by simp [hi]
    refine ⟨(List.range zs.length).map q, by simp, ⟨_, cap, rfl, by rw [zcells_len]; simp, .inr ⟨b, off, rfl, hb, fun t x hx => ?_⟩⟩, fun i p z h1 h2 => ?_⟩
    · have ht := (List.getElem?_eq_some_iff.1 hx).1
      rw [zcells_len, List.length_map, List.length_range] at ht
      obtain ⟨i, hi, e⟩ : ∃ i, i < zs.length ∧ (t = i * 2 ∨ t = i * 2 + 1) := ⟨t / 2, by omega, by omega⟩
      obtain ⟨q1, q2⟩ := zcells_get _ _ _ (hg i hi)
      obtain ⟨_, e1, e2⟩ := hq i hi _ (List.getElem?_eq_getElem hi)
      rcases e with rfl | rfl
      · rw [q1] at hx; cases hx; exact e1
      · rw [q2] at hx; cases hx; rw [← Nat.add_assoc]; exact e2
    · have hi := (List.getElem?_eq_some_iff.1 h2).1
      rw [hg i hi] at h1
      cases h1
      exact (hq i hi z h2).1

section
variable {H : Type} {enc : TypeId × Value → H} {w : World} {base : Nat} {sp : Nat → Bool} {hd : Bool}
theorem open_zoneZ {fuel : Nat} {cs : List Value} {x : DataW H × List MemPlace} (h : DataW.trod enc Tryd.prog w base sp hd fuel 26 cs = some x) :
    ∃ (z : Zn) (v1 v2 : Value), cs = [v1, v2] ∧ ZoneIn w v1 v2 z.1 z.2 ∧ I64 z := by
  obtain ⟨v1, v2, cl, gl, e, hz, _, h1, h2⟩ := open_zone h
  exact ⟨(cl, gl), v1, v2, e, hz, fun c hc => h1 c hc, fun g hg => h2 g hg⟩
theorem open_zones {fuel : Nat} {v : Value} {x : DataW H × List MemPlace} (h : DataW.trod enc Tryd.prog w base sp hd fuel 22 [v] = some x) : ∃ zs : List Zn, ZIs w v zs ∧ ∀ z ∈ zs, I64 z := by
  obtain ⟨T, hr, hp⟩ := open_rowE zoneE 2 I64 Tryd.underlying22 celz_zone (by decide) (fun fuel cs x _ h => by
    obtain ⟨z, v1, v2, e, hz, hi⟩ := open_zoneZ h
    exact ⟨z, ⟨v1, v2, e, hz⟩, hi⟩) h
  exact ⟨T, .of_rowE hr, hp⟩
theorem cel_i64Z : Tryd.prog.cellsOf 2 = 1 := by kernel_rfl
theorem Reads.of_rowE {w : World} {v : Value} {T : List Int} (h : RowE intE 1 w v T) : Reads w v (ints T) := by
  have hm := h.max
  obtain ⟨ad, cap, rfl, _, h⟩ := h
  rcases h with rfl | ⟨b, off, rfl, hb, hc⟩
  · exact .inl ⟨ad, cap, rfl, rfl⟩
  · refine .inr ⟨b, off, cap, by rw [ints_len], hb, by rw [ints_len]; exact hm, fun t x hx => ?_⟩
    unfold ints at hx
    rw [List.getElem?_map] at hx
    cases ht : T[t]? with
    | none => rw [ht] at hx; cases hx
    | some n =>
      rw [ht] at hx
      cases hx
      obtain ⟨cs, _, he, hcell⟩ := hc t n ht
      have he : cs = [.int .i64 n] := he
      subst he
      have := hcell 0 _ rfl
      rwa [Nat.mul_one, Nat.add_zero] at this
theorem open_i64s {fuel : Nat} {v : Value} {x : DataW H × List MemPlace} (h : DataW.trod enc Tryd.prog w base sp hd fuel 34 [v] = some x) : ∃ T : List Int, Reads w v (ints T) ∧ ∀ n ∈ T, -9223372036854775808 ≤ n ∧ n ≤ 9223372036854775807 := by
  obtain ⟨T, hr, hp⟩ := open_rowE intE 1 (fun n => -9223372036854775808 ≤ n ∧ n ≤ 9223372036854775807) Tryd.underlying34 cel_i64Z (by decide) (fun fuel cs x _ h => by
    obtain ⟨a, ha, _, wf⟩ := DataW.trod_int Tryd.underlying2 h
    exact ⟨a, ha, bounds_i64 wf⟩) h
  exact ⟨T, .of_rowE hr, hp⟩
theorem mapM_intsZ {P : Program} {e : TypeId} {q : IntKind} (he : P.underlying e = some (.int q)) {m : Nat} {cs : List Value} {c : Nat} :
    ∀ (L : List Nat) (xs : List (DataW H × List MemPlace)), L.mapM (fun i => DataW.trod enc P w base sp hd m e ((cs.drop (i * c)).take c)) = some xs → ∀ i ∈ L, ∃ a, (cs.drop (i * c)).take c = [.int q a]
  | [], _, _, i, hi => by simp at hi
  | j :: L, xs, h, i, hi => by
    rw [List.mapM_cons] at h
    simp only [bind, Option.bind_eq_some_iff, pure, Option.some.injEq] at h
    obtain ⟨y, hy, ys, hys, rfl⟩ := h
    obtain ⟨a, ea, _, _⟩ := DataW.trod_int he hy
    rcases List.mem_cons.1 hi with rfl | hi
    · exact ⟨a, ea⟩
    · exact mapM_intsZ he L ys hys i hi
theorem open_arr3Z {P : Program} {k e : TypeId} {q : IntKind} (hu : P.underlying k = some (.array 3 e)) (he : P.underlying e = some (.int q)) (hone : P.cellsOf e = 1) (hsz : P.cellsOf k = 3)
    {xs : Array Value} (hn : xs.size = 3) {d : DataW H} {ps : List MemPlace} (hd : DataW.Trod enc P w base sp hd k (.agg xs) d ps) : ∃ a b c, xs = #[.int q a, .int q b, .int q c] := by
  obtain ⟨fuel, hf⟩ := hd
  cases fuel with
  | zero => simp [DataW.trod] at hf
  | succ m =>
    rw [DataW.trod_step] at hf
    unfold DataW.trodStep at hf
    simp only [hu, Value.cells] at hf
    rw [if_pos (by rw [hsz]; simpa using hn)] at hf
    simp only [Option.map_eq_some_iff] at hf
    obtain ⟨ys, hy, _⟩ := hf
    have h := mapM_intsZ he _ ys hy
    obtain ⟨x0, x1, x2, rfl⟩ : ∃ x0 x1 x2, xs = #[x0, x1, x2] := by
      obtain ⟨l⟩ := xs
      match l, hn with
      | [x0, x1, x2], _ => exact ⟨x0, x1, x2, rfl⟩
    obtain ⟨a, ha⟩ := h 0 (by simp)
    obtain ⟨b, hb⟩ := h 1 (by simp)
    obtain ⟨c, hc⟩ := h 2 (by simp)
    rw [hone] at ha hb hc
    simp at ha hb hc
    exact ⟨a, b, c, by rw [ha, hb, hc]⟩
end
end Go.Proofs.YtkkoooagamadjaaDoor

namespace Go.Proofs.YtkkoooagamadjaaDoor.writeUnique
open Go.ChangeShapes Go.WideShapes Go.ChangeAt Go.RowKit
open Go.ChangeMaps (open_string shut_string)

theorem own : ownKnob Tryd.prog.godebug = none := by kernel_rfl
theorem reads (os : Os) {H : Type} (enc : TypeId × Value → H) : ∃ places, DataW.whole enc Tryd.prog ((World.laidAll Tryd.prog os Rows.writeUniqueRow.laid).forCall (fun _ _ => 0) ⟨#[], #[.slice none 0 0, .agg #[.slice none 0 0, .slice none 0 0], .agg #[.slice none 0 0, .slice none 0 0]], []⟩).memory Tryd.f3.params.toList Rows.writeUniqueSpec.vars false #[Value.slice none 0 0, Value.agg #[.slice none 0 0, .slice none 0 0], Value.agg #[.slice none 0 0, .slice none 0 0]].toList 8 = some ([.nil, .agg [.nil, .nil], .agg [.nil, .nil]], [], places) :=
  ⟨[], by kernel_rfl⟩
theorem okIn (os : Os) : Input.okWideB Tryd.prog ((World.laidAll Tryd.prog os Rows.writeUniqueRow.laid).forCall (fun _ _ => 0) ⟨#[], #[.slice none 0 0, .agg #[.slice none 0 0, .slice none 0 0], .agg #[.slice none 0 0, .slice none 0 0]], []⟩) 3 ⟨#[], #[.slice none 0 0, .agg #[.slice none 0 0, .slice none 0 0], .agg #[.slice none 0 0, .slice none 0 0]], []⟩ = true := by kernel_rfl
theorem laid_met (os : Os) : laidMetH Tryd.prog Rows.writeUniqueRow.laid ((World.laidAll Tryd.prog os Rows.writeUniqueRow.laid).forCall (fun _ _ => 0) ⟨#[], #[.slice none 0 0, .agg #[.slice none 0 0, .slice none 0 0], .agg #[.slice none 0 0, .slice none 0 0]], []⟩).memory := by
  rw [MakeChecks.laidMetH_plain _ _ _ (by kernel_rfl)]; exact laidMet_laidAll _ (by kernel_rfl) (by kernel_rfl)

set_option maxRecDepth 100000 in
theorem lifted (os : Os) (started : os.Started) (H : Type) (enc : TypeId × Value → H) (F : Stop.Interp) :
    ReturnsInHanded {} Tryd.checked os 3 .any ((OpenSpec.ofChange Rows.writeUniqueSpec).preRow enc Tryd.prog Tryd.f3 Rows.writeUniqueRow.domain false Rows.writeUniqueRow.laid) (((OpenSpec.ofChange Rows.writeUniqueSpec).at F).post enc Tryd.prog Tryd.f3 false true false false) := by
  obtain ⟨places, hx⟩ := reads os enc
  refine returnsInHanded_of_row (C := Tryd.checked) (s := OpenSpec.ofChange Rows.writeUniqueSpec) own started (by kernel_rfl) Tryd.func3
    ⟨World.laidAll Tryd.prog os Rows.writeUniqueRow.laid, fun _ _ => 0, ⟨#[], #[.slice none 0 0, .agg #[.slice none 0 0, .slice none 0 0], .agg #[.slice none 0 0, .slice none 0 0]], []⟩, World.laidAll_os _ _ _, World.shaped_of_ZipB (by kernel_rfl) (by kernel_rfl), (Input.okWide_of_okWideB (base := 0) (okIn os)).1, (Input.okWide_of_okWideB (okIn os)).2,
      OpenSpec.preRow_of_cond 8 hx (by kernel_rfl) (fun k hk => by cases hk) (by kernel_rfl) (laid_met os), by
        simp only [Assume.holds]
        exact ⟨by simp, by simp, fun _ => Modest.zero, by simp, by simp⟩⟩ ?_
  intro W base args ds gs before hval0 hW _ _ hsz hlaid hsh _
  have hl1 : laidMet Tryd.prog Rows.writeUniqueRow.laid W := by
    rw [MakeChecks.laidMetH_plain _ _ _ (by kernel_rfl)] at hlaid
    exact hlaid
  have HPOW : Lib.TabIs Tryd.prog W "internal/strconv.uint64pow10" .u64 Lib.pow10Tab := (Lib.tabIs_of_head (n := 20) (show Tryd.prog.globalNamed "internal/strconv.uint64pow10" = some 0 by kernel_rfl) (show (Tryd.prog.globals[0]?).map (·.type) = some 111 by kernel_rfl) (show Tryd.prog.underlying 111 = some (.array 20 94) by kernel_rfl) (show Tryd.prog.underlying 94 = some (.int .u64) by kernel_rfl) (by kernel_rfl) (by kernel_rfl)
      (rest := (Rows.writeUniqueRow.laid.drop 3)) (show laidMet Tryd.prog (("internal/strconv.uint64pow10", Lib.tabData .u64 Lib.pow10Tab) :: Rows.writeUniqueRow.laid.drop 3) W from by rw [show ((("internal/strconv.uint64pow10", Lib.tabData .u64 Lib.pow10Tab) : String × DataW Unit) :: Rows.writeUniqueRow.laid.drop 3) = Rows.writeUniqueRow.laid.drop 2 by kernel_rfl]; exact hl1.tail.tail))

  have HT : PTab W := HPOW
  have hval : ∀ (j : Nat) t v, Tryd.f3.params[j]? = some t → args[j]? = some v → Value.okWide Tryd.prog W .any base t v := hval0
  have hW' := hW
  obtain ⟨p, q, hA0, hV, rfl, hfz, hnd⟩ := hW
  have hA : DataW.TrodAll enc Tryd.prog W 0 (fun _ => true) true Tryd.f3.params.toList args.toList ds p := hA0
  rw [Tryd.params3] at hA hval hsz
  obtain ⟨v0, vs0, d0, ds0, p0, q0, hargs, rfl, rfl, h0, r0⟩ := trodAll_cons hA
  obtain ⟨v1, vs1, d1, ds1, p1, q1, rfl, rfl, rfl, h1, r1⟩ := trodAll_cons r0
  obtain ⟨v2, vs2, d2, ds2, p2, q2, rfl, rfl, rfl, h2, r2⟩ := trodAll_cons r1
  obtain ⟨rfl, rfl, rfl⟩ := trodAll_nil r2
  obtain rfl : args = #[v0, v1, v2] := by cases args; simp_all
  obtain ⟨rfl, rfl⟩ := trodVars_none hV
  obtain ⟨ad0, len0, cap0, rfl⟩ := okWide_slice Tryd.underlying22 (hval 0 22 v0 rfl rfl)
  have k0 := h0
  have lt0 : ∀ x ∈ p0, x.block < W.heap.size := by obtain ⟨m, hm⟩ := k0; exact DataW.trod_lt m _ _ _ hm
  obtain ⟨T0, R0, N0⟩ := (show ∃ T : List Zn, ZIs W (.slice ad0 len0 cap0) T ∧ ∀ z ∈ T, I64 z by obtain ⟨fuel, hf⟩ := h0; exact open_zones hf)
  obtain ⟨xs1, rfl, hxs1⟩ := okWide_struct Tryd.underlying26 (hval 1 26 v1 rfl rfl)
  have k1 := h1
  have lt1 : ∀ x ∈ p1, x.block < W.heap.size := by obtain ⟨m, hm⟩ := k1; exact DataW.trod_lt m _ _ _ hm
  obtain ⟨Z1, u1_0, u1_1, hcs1, R1, N1⟩ : ∃ (z : Zn) (m0 m1 : Value), xs1 = #[m0, m1] ∧ ZoneIn W m0 m1 z.1 z.2 ∧ I64 z := by
    obtain ⟨fuel, hf⟩ := h1
    obtain ⟨z, m0, m1, hc, hR, hN⟩ := open_zoneZ hf
    exact ⟨z, m0, m1, by apply Array.toList_inj.1; exact hc, hR, hN⟩
  subst hcs1
  obtain ⟨xs2, rfl, hxs2⟩ := okWide_struct Tryd.underlying26 (hval 2 26 v2 rfl rfl)
  have k2 := h2
  have lt2 : ∀ x ∈ p2, x.block < W.heap.size := by obtain ⟨m, hm⟩ := k2; exact DataW.trod_lt m _ _ _ hm
  obtain ⟨Z2, u2_0, u2_1, hcs2, R2, N2⟩ : ∃ (z : Zn) (m0 m1 : Value), xs2 = #[m0, m1] ∧ ZoneIn W m0 m1 z.1 z.2 ∧ I64 z := by
    obtain ⟨fuel, hf⟩ := h2
    obtain ⟨z, m0, m1, hc, hR, hN⟩ := open_zoneZ hf
    exact ⟨z, m0, m1, by apply Array.toList_inj.1; exact hc, hR, hN⟩
  subst hcs2
  clear hA0 hval0
  simp only [List.append_nil] at hW'
  refine (lawUnique_any HT R0 R1 R2 N0 N1 N2).mono fun e W' ⟨he, hg⟩ => ?_
  subst he
  exact ⟨_, rfl, _, _, _, [], _, [], hW', (trodAll_cons_mk (shut_bool Tryd.underlying4 _) trodAll_mk0), (trodAll_cons_mk (Below.trod (by kernel_rfl) (by kernel_rfl) (of_decide_eq_true (by kernel_rfl)) k0 hg lt0) (trodAll_cons_mk (Below.trod (by kernel_rfl) (by kernel_rfl) (of_decide_eq_true (by kernel_rfl)) k1 hg lt1) (trodAll_cons_mk (Below.trod (by kernel_rfl) (by kernel_rfl) (of_decide_eq_true (by kernel_rfl)) k2 hg lt2) trodAll_mk0))), rfl, hg.frame _, fun h => by cases h⟩

theorem said : Rows.WriteUniqueSaid :=
  OpenClaim.holds_of_cond 3 Tryd.f3 rfl rfl rfl rfl rfl rfl rfl ⟨rfl, rfl, rfl, rfl, rfl⟩ rfl rfl rfl rfl rfl (by kernel_rfl) Tryd.func3 (by kernel_rfl)
    (of_decide_eq_true (by kernel_rfl)) (by unfold Func.isWrapper; first | (rw [if_pos (by decide +kernel)]; kernel_rfl) | (rw [if_neg (by decide +kernel)]; exact ⟨rfl, rfl⟩))
    (fun os started H enc _ F => by rw [OpenClaim.pre_eq_preRow]; exact lifted os started H enc F)

theorem plain (f : FuncId) (fn : Func) (hf : Tryd.pinned.checked.prog.funcNamed "warder/warderlaw25.WriteUnique" = some f) (hfn : Tryd.pinned.checked.prog.funcs[f]? = some fn) :
    false = Tryd.pinned.checked.prog.looks [] ∧ ∀ (j : Nat) t, fn.params[j]? = some t → Tryd.pinned.checked.prog.wantsStandIn t = false := by
  obtain rfl : f = 3 := Option.some.inj ((show Tryd.prog.funcNamed "warder/warderlaw25.WriteUnique" = some 3 by kernel_rfl).symm.trans hf) |>.symm
  obtain rfl : fn = Tryd.f3 := (Option.some.inj (Tryd.func3.symm.trans hfn)).symm
  refine ⟨by kernel_rfl, fun j t ht => ?_⟩
  rw [Tryd.params3] at ht
  have h3 : t = 22 ∨ t = 26 := by simpa using Array.mem_of_getElem? ht
  rcases h3 with rfl | rfl
  · exact (show Tryd.prog.wantsStandIn 22 = false by kernel_rfl)
  · exact (show Tryd.prog.wantsStandIn 26 = false by kernel_rfl)

/-- THE CARD -/
theorem proved : Rows.WriteUniqueCardSaid :=
  Claim7.holds_tied_plain_at .later [] _ _ _ _ said (fun _ h => by cases h) (by kernel_rfl) (fun _ h => by cases h) writeUnique_row_tie rfl ⟨rfl, rfl⟩ (by kernel_rfl) rfl plain (by kernel_rfl)
end Go.Proofs.YtkkoooagamadjaaDoor.writeUnique
