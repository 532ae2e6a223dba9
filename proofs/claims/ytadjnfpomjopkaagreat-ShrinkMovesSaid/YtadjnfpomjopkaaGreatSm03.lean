/- Rows of whatever elements, wherever they lie; and how they are opened where they came in. Models and moves that came in: their Lean form, and how they are opened. -/
import Derived.Test.YtadjnfpomjopkaaGreatSm02
import Derived.Deep.Slices
import Derived.ChangeArms
import Derived.OpenShut

namespace Go.Proofs.YtadjnfpomjopkaaGreat
open Go.RowKit Go.ChangeShapes Go.WideShapes Go.Deep

/-- what an element's cells are, in a world -/
abbrev ElE (α : Type) := World → α → List Value → Prop
/-- it stays where nothing older turns -/
def KeepE {α : Type} (E : ElE α) : Prop := ∀ (w w' : World) (a : α) (cs : List Value), E w a cs → Below w.heap.size w w' → E w' a cs

/-- a slice of elements of k cells, wherever it lies -/
def RowE {α : Type} (E : ElE α) (k : Nat) (w : World) (v : Value) (T : List α) : Prop :=
  ∃ ad cap, v = .slice ad T.length cap ∧ ((ad = none → cap = 0) ∧ T.length ≤ cap ∧ cap ≤ maxLen) ∧ (T = [] ∨ ∃ b off, ad = some ⟨b, off, none⟩ ∧ b < w.heap.size ∧ ∀ i a, T[i]? = some a → ∃ cs : List Value, cs.length = k ∧ E w a cs ∧ ∀ j u, cs[j]? = some u → w.cell? ⟨b, off + i * k + j, none⟩ = some u)
theorem RowE.below {α : Type} {E : ElE α} {k : Nat} {w w' : World} {v : Value} {T : List α} (h : RowE E k w v T) (hE : KeepE E) (hb : Below w.heap.size w w') : RowE E k w' v T := by
  obtain ⟨ad, cap, hv, hz, h⟩ := h
  refine ⟨ad, cap, hv, hz, ?_⟩
  rcases h with h | ⟨b, off, ha, hg, hc⟩
  · exact .inl h
  · refine .inr ⟨b, off, ha, Nat.lt_of_lt_of_le hg hb.size, fun i a hi => ?_⟩
    obtain ⟨cs, h1, h2, h3⟩ := hc i a hi
    exact ⟨cs, h1, hE _ _ _ _ h2 hb, fun j u hu => (hb.cell (p := ⟨b, off + i * k + j, none⟩) hg).trans (h3 j u hu)⟩
theorem RowE.len {α : Type} {E : ElE α} {k : Nat} {w : World} {v : Value} {T : List α} (h : RowE E k w v T) : ∃ ad cap, v = .slice ad T.length cap := by
  obtain ⟨ad, cap, hv, _⟩ := h; exact ⟨ad, cap, hv⟩
theorem RowE.max {α : Type} {E : ElE α} {k : Nat} {w : World} {v : Value} {T : List α} (h : RowE E k w v T) : T.length ≤ 9223372036854775807 := by
  obtain ⟨ad, cap, _, ⟨_, h1, h2⟩, _⟩ := h; unfold maxLen at h2; omega
theorem RowE.at {α : Type} {E : ElE α} {k : Nat} {w : World} {v : Value} {T : List α} (h : RowE E k w v T) {i : Nat} {a : α} (hi : T[i]? = some a) :
    ∃ b off cap cs, v = .slice (some ⟨b, off, none⟩) T.length cap ∧ b < w.heap.size ∧ cs.length = k ∧ E w a cs ∧ ∀ j u, cs[j]? = some u → w.cell? ⟨b, off + i * k + j, none⟩ = some u := by
  obtain ⟨ad, cap, rfl, _, h⟩ := h
  rcases h with rfl | ⟨b, off, rfl, hg, hc⟩
  · simp at hi
  · obtain ⟨cs, h1, h2, h3⟩ := hc i a hi
    exact ⟨b, off, cap, cs, rfl, hg, h1, h2, h3⟩
theorem RowE.nil {α : Type} (E : ElE α) (k : Nat) (w : World) : RowE E k w (.slice none 0 0) [] := ⟨none, 0, rfl, ⟨fun _ => rfl, Nat.le_refl _, by unfold maxLen; omega⟩, .inl rfl⟩

/-- strings, numbers -/
def strE : ElE ByteArray := fun _ s cs => cs = [.string s]
def intE : ElE Int := fun _ n cs => cs = [.int .i64 n]
theorem strE_keep : KeepE strE := fun _ _ _ _ h _ => h
theorem intE_keep : KeepE intE := fun _ _ _ _ h _ => h
theorem RowE.str {w : World} {v : Value} {T : List ByteArray} (h : RowE strE 1 w v T) {i : Nat} {s : ByteArray} (hi : T[i]? = some s) :
    ∃ b off cap, v = .slice (some ⟨b, off, none⟩) T.length cap ∧ b < w.heap.size ∧ w.cell? ⟨b, off + i, none⟩ = some (.string s) := by
  obtain ⟨b, off, cap, cs, hv, hb, _, he, hc⟩ := h.at hi
  subst he
  exact ⟨b, off, cap, hv, hb, by have := hc 0 _ rfl; rwa [Nat.mul_one, Nat.add_zero] at this⟩
theorem RowE.int {w : World} {v : Value} {T : List Int} (h : RowE intE 1 w v T) {i : Nat} {n : Int} (hi : T[i]? = some n) :
    ∃ b off cap, v = .slice (some ⟨b, off, none⟩) T.length cap ∧ b < w.heap.size ∧ w.cell? ⟨b, off + i, none⟩ = some (.int .i64 n) := by
  obtain ⟨b, off, cap, cs, hv, hb, _, he, hc⟩ := h.at hi
  subst he
  exact ⟨b, off, cap, hv, hb, by have := hc 0 _ rfl; rwa [Nat.mul_one, Nat.add_zero] at this⟩

section
variable {H : Type} {enc : TypeId × Value → H} {w : World} {base : Nat} {sp : Nat → Bool} {hd : Bool}

/-- a slice that came in is a row -/
theorem open_rowE {α : Type} (E : ElE α) (k : Nat) (p : α → Prop) {t e : TypeId} (ht : Tryz.prog.underlying t = some (.slice e)) (hk : Tryz.prog.cellsOf e = k) (hk0 : 0 < k)
    (hE : ∀ (fuel : Nat) (cs : List Value) (x : DataW H × List MemPlace), cs.length = k → DataW.trod enc Tryz.prog w base sp hd fuel e cs = some x → ∃ a, E w a cs ∧ p a)
    {fuel : Nat} {v : Value} {x : DataW H × List MemPlace} (h : DataW.trod enc Tryz.prog w base sp hd fuel t [v] = some x) :
    ∃ T : List α, RowE E k w v T ∧ ∀ a ∈ T, p a := by
  rcases open_slice ht h with ⟨he, _⟩ | ⟨a, len, c, m, kk, D, Pl, he, hb, hl, hm, hmm, hx, hall⟩
  · simp only [List.cons.injEq, and_true] at he
    subst he
    exact ⟨[], RowE.nil _ _ _, fun y hy => by cases hy⟩
  · simp only [List.cons.injEq, and_true] at he
    subst he
    by_cases h0 : len = 0
    · subst h0
      exact ⟨[], ⟨_, c, rfl, ⟨fun e => (by cases e), hl, hm⟩, .inl rfl⟩, fun y hy => by cases hy⟩
    have hnm : len ≤ m := by rw [hmm]; split <;> omega
    have each : ∀ i, i < len → ∃ q : α × List Value, q.2.length = k ∧ E w q.1 q.2 ∧ p q.1 ∧ ∀ j u, q.2[j]? = some u → w.cell? (a.add (i * k + j)) = some u := by
      intro i hi
      obtain ⟨cs, h1, h2⟩ := hall i (by omega)
      rw [hk] at h1
      obtain ⟨_, hlen, hcell⟩ := World.cells?_some h1
      obtain ⟨y, e1, e2⟩ := hE _ _ _ hlen h2
      refine ⟨(y, cs), hlen, e1, e2, fun j u hu => ?_⟩
      have hj := (List.getElem?_eq_some_iff.1 hu).1
      have := hcell j (by dsimp only at hj; omega)
      rw [add_add] at this
      rw [this]; exact hu
    haveI : Inhabited (α × List Value) := ⟨(each 0 (by omega)).choose⟩
    obtain ⟨q, hq⟩ := choose_lt each
    obtain ⟨l0, _, _, c0⟩ := hq 0 (by omega)
    have hz := c0 0 _ (List.getElem?_eq_getElem (by omega))
    obtain ⟨b, off, spot⟩ := a
    have hspot : spot = none := by simpa [Addr.add] using World.cell?_spot hz
    subst hspot
    have hadd : ∀ i, (⟨b, off, none⟩ : Addr).add i = ⟨b, off + i, none⟩ := fun i => by unfold Addr.add; split <;> simp_all
    refine ⟨(List.range len).map fun i => (q i).1, ⟨_, c, by simp, ⟨fun e => (by cases e), by simpa using hl, hm⟩, .inr ⟨b, off, rfl, World.block_lt_of_cell? w _ (by rw [hadd] at hz; exact hz), fun i y hy => ?_⟩⟩, ?_⟩
    · have hi : i < len := by have := (List.getElem?_eq_some_iff.1 hy).1; simpa using this
      have hy' : y = (q i).1 := by simpa [hi] using hy.symm
      subst hy'
      obtain ⟨e1, e2, _, e4⟩ := hq i hi
      refine ⟨_, e1, e2, fun j u hu => ?_⟩
      have := e4 j u hu
      rw [hadd] at this
      rw [Nat.add_assoc]; exact this
    · intro y hy
      obtain ⟨i, hi, rfl⟩ := List.mem_map.1 hy
      exact (hq i (by simpa using hi)).2.2.1
theorem open_rowE' {α : Type} (E : ElE α) (k : Nat) (p : α → Prop) {t e : TypeId} (ht : Tryz.prog.underlying t = some (.slice e)) (hk : Tryz.prog.cellsOf e = k) (hk0 : 0 < k)
    (hE : ∀ (fuel : Nat) (cs : List Value) (x : DataW H × List MemPlace), cs.length = k → DataW.trod enc Tryz.prog w base sp hd fuel e cs = some x → ∃ a, E w a cs ∧ p a)
    {fuel : Nat} {cs : List Value} (hc : cs.length = 1) {x : DataW H × List MemPlace} (h : DataW.trod enc Tryz.prog w base sp hd fuel t cs = some x) :
    ∃ v, cs = [v] ∧ ∃ T : List α, RowE E k w v T ∧ ∀ a ∈ T, p a := by
  match cs, hc with
  | [v], _ => exact ⟨v, rfl, open_rowE E k p ht hk hk0 hE h⟩
end
end Go.Proofs.YtadjnfpomjopkaaGreat

namespace Go.Proofs.YtadjnfpomjopkaaGreat
open Go.RowKit Go.ChangeShapes Go.WideShapes Go.Deep

/-- a number of 64 bits -/
def N64 (x : Int) : Prop := -9223372036854775808 ≤ x ∧ x ≤ 9223372036854775807
theorem cel_int : Tryz.prog.cellsOf 3 = 1 := by kernel_rfl
theorem cel_i64 : Tryz.prog.cellsOf 2 = 1 := by kernel_rfl
theorem cel_str : Tryz.prog.cellsOf 9 = 1 := by kernel_rfl
theorem cel_bool : Tryz.prog.cellsOf 4 = 1 := by kernel_rfl
section
variable {H : Type} {enc : TypeId × Value → H} {w : World} {base : Nat} {sp : Nat → Bool} {hd : Bool}
theorem op_int {e : TypeId} (he : Tryz.prog.underlying e = some (.int .i64)) (fuel : Nat) (cs : List Value) (x : DataW H × List MemPlace) (_ : cs.length = 1) (h : DataW.trod enc Tryz.prog w base sp hd fuel e cs = some x) : ∃ a, intE w a cs ∧ N64 a := by
  obtain ⟨a, ha, _, wf⟩ := DataW.trod_int he h
  exact ⟨a, ha, bounds_i64 wf⟩
theorem op_str (fuel : Nat) (cs : List Value) (x : DataW H × List MemPlace) (_ : cs.length = 1) (h : DataW.trod enc Tryz.prog w base sp hd fuel 9 cs = some x) : ∃ a, strE w a cs ∧ True := by
  obtain ⟨a, ha, _, _⟩ := DataW.trod_string Tryz.underlying9 h
  exact ⟨a, ha, trivial⟩
end

theorem cel_sl_event : Tryz.prog.cellsOf 26 = 1 := by kernel_rfl
theorem cel_sl_guard : Tryz.prog.cellsOf 27 = 1 := by kernel_rfl
theorem cel_sl_i64 : Tryz.prog.cellsOf 23 = 1 := by kernel_rfl
theorem cel_sl_inst : Tryz.prog.cellsOf 50 = 1 := by kernel_rfl
theorem cel_sl_int : Tryz.prog.cellsOf 42 = 1 := by kernel_rfl
theorem cel_sl_mile : Tryz.prog.cellsOf 28 = 1 := by kernel_rfl
theorem cel_sl_role : Tryz.prog.cellsOf 24 = 1 := by kernel_rfl
theorem cel_sl_sentry : Tryz.prog.cellsOf 30 = 1 := by kernel_rfl
theorem cel_sl_sod : Tryz.prog.cellsOf 29 = 1 := by kernel_rfl
theorem cel_sl_stage : Tryz.prog.cellsOf 25 = 1 := by kernel_rfl
theorem cel_sl_str : Tryz.prog.cellsOf 22 = 1 := by kernel_rfl

def valE : ElE (Int × Int) := fun _ a cs => cs = [.int .i64 a.1, .int .i64 a.2]
theorem valE_keep : KeepE valE := fun _ _ _ _ h _ => h
def valOK (a : Int × Int) : Prop := N64 a.1 ∧ N64 a.2
theorem cel_val : Tryz.prog.cellsOf 35 = 2 := by kernel_rfl
set_option maxRecDepth 100000 in
theorem op_val {H : Type} {enc : TypeId × Value → H} {w : World} {base : Nat} {sp : Nat → Bool} {hd : Bool} (fuel : Nat) (cs : List Value) (x : DataW H × List MemPlace) (hlen : cs.length = 2) (h : DataW.trod enc Tryz.prog w base sp hd fuel 35 cs = some x) : ∃ a, valE w a cs ∧ valOK a := by
  obtain ⟨xs, n, _, _, _, hxl, hf⟩ := DataW.trod_struct Tryz.underlying35 h
  match cs, hlen with
  | [w0, w1], _ =>
    have hx0 := List.getElem?_eq_getElem (show 0 < xs.length by rw [hxl]; decide)
    have g0 : DataW.trod enc Tryz.prog w base sp hd n 3 (([w0, w1].drop 0).take (Tryz.prog.cellsOf 3)) = xs[0]? := hf 0 _ rfl
    rw [hx0, cel_int] at g0
    simp only [List.drop, List.take] at g0
    have hx1 := List.getElem?_eq_getElem (show 1 < xs.length by rw [hxl]; decide)
    have g1 : DataW.trod enc Tryz.prog w base sp hd n 2 (([w0, w1].drop 1).take (Tryz.prog.cellsOf 2)) = xs[1]? := hf 1 _ rfl
    rw [hx1, cel_i64] at g1
    simp only [List.drop, List.take] at g1
    obtain ⟨a0, e0, _, wf0⟩ := DataW.trod_int Tryz.underlying3 g0
    simp only [List.cons.injEq, and_true] at e0
    obtain ⟨a1, e1, _, wf1⟩ := DataW.trod_int Tryz.underlying2 g1
    simp only [List.cons.injEq, and_true] at e1
    exact ⟨⟨a0, a1⟩, show _ = _ from by rw [e0, e1], ⟨bounds_i64 wf0, bounds_i64 wf1⟩⟩

structure Ins where
  op : Int
  l : Int × Int
  r : Int × Int
  n : Int
  user : Int
def instE : ElE (Ins) := fun _ a cs => cs = [.int .i64 a.op, .int .i64 a.l.1, .int .i64 a.l.2, .int .i64 a.r.1, .int .i64 a.r.2, .int .i64 a.n, .int .i64 a.user]
theorem instE_keep : KeepE instE := fun _ _ _ _ h _ => h
def instOK (a : Ins) : Prop := N64 a.op ∧ valOK a.l ∧ valOK a.r ∧ N64 a.n ∧ N64 a.user
theorem cel_inst : Tryz.prog.cellsOf 37 = 7 := by kernel_rfl
set_option maxRecDepth 100000 in
theorem op_inst {H : Type} {enc : TypeId × Value → H} {w : World} {base : Nat} {sp : Nat → Bool} {hd : Bool} (fuel : Nat) (cs : List Value) (x : DataW H × List MemPlace) (hlen : cs.length = 7) (h : DataW.trod enc Tryz.prog w base sp hd fuel 37 cs = some x) : ∃ a, instE w a cs ∧ instOK a := by
  obtain ⟨xs, n, _, _, _, hxl, hf⟩ := DataW.trod_struct Tryz.underlying37 h
  match cs, hlen with
  | [w0, w1, w2, w3, w4, w5, w6], _ =>
    have hx0 := List.getElem?_eq_getElem (show 0 < xs.length by rw [hxl]; decide)
    have g0 : DataW.trod enc Tryz.prog w base sp hd n 3 (([w0, w1, w2, w3, w4, w5, w6].drop 0).take (Tryz.prog.cellsOf 3)) = xs[0]? := hf 0 _ rfl
    rw [hx0, cel_int] at g0
    simp only [List.drop, List.take] at g0
    have hx1 := List.getElem?_eq_getElem (show 1 < xs.length by rw [hxl]; decide)
    have g1 : DataW.trod enc Tryz.prog w base sp hd n 35 (([w0, w1, w2, w3, w4, w5, w6].drop 1).take (Tryz.prog.cellsOf 35)) = xs[1]? := hf 1 _ rfl
    rw [hx1, cel_val] at g1
    simp only [List.drop, List.take] at g1
    have hx2 := List.getElem?_eq_getElem (show 2 < xs.length by rw [hxl]; decide)
    have g2 : DataW.trod enc Tryz.prog w base sp hd n 35 (([w0, w1, w2, w3, w4, w5, w6].drop 3).take (Tryz.prog.cellsOf 35)) = xs[2]? := hf 2 _ rfl
    rw [hx2, cel_val] at g2
    simp only [List.drop, List.take] at g2
    have hx3 := List.getElem?_eq_getElem (show 3 < xs.length by rw [hxl]; decide)
    have g3 : DataW.trod enc Tryz.prog w base sp hd n 3 (([w0, w1, w2, w3, w4, w5, w6].drop 5).take (Tryz.prog.cellsOf 3)) = xs[3]? := hf 3 _ rfl
    rw [hx3, cel_int] at g3
    simp only [List.drop, List.take] at g3
    have hx4 := List.getElem?_eq_getElem (show 4 < xs.length by rw [hxl]; decide)
    have g4 : DataW.trod enc Tryz.prog w base sp hd n 3 (([w0, w1, w2, w3, w4, w5, w6].drop 6).take (Tryz.prog.cellsOf 3)) = xs[4]? := hf 4 _ rfl
    rw [hx4, cel_int] at g4
    simp only [List.drop, List.take] at g4
    obtain ⟨a0, e0, _, wf0⟩ := DataW.trod_int Tryz.underlying3 g0
    simp only [List.cons.injEq, and_true] at e0
    obtain ⟨a1, e1, o1⟩ := op_val _ _ _ rfl g1
    unfold valE at e1
    simp only [List.cons.injEq, and_true] at e1
    obtain ⟨a2, e2, o2⟩ := op_val _ _ _ rfl g2
    unfold valE at e2
    simp only [List.cons.injEq, and_true] at e2
    obtain ⟨a3, e3, _, wf3⟩ := DataW.trod_int Tryz.underlying3 g3
    simp only [List.cons.injEq, and_true] at e3
    obtain ⟨a4, e4, _, wf4⟩ := DataW.trod_int Tryz.underlying3 g4
    simp only [List.cons.injEq, and_true] at e4
    exact ⟨⟨a0, a1, a2, a3, a4⟩, show _ = _ from by rw [e0, e1.1, e1.2, e2.1, e2.2, e3, e4], ⟨bounds_i64 wf0, o1, o2, bounds_i64 wf3, bounds_i64 wf4⟩⟩

def roleE : ElE (ByteArray × Int) := fun _ a cs => cs = [.string a.1, .int .i64 a.2]
theorem roleE_keep : KeepE roleE := fun _ _ _ _ h _ => h
def roleOK (a : ByteArray × Int) : Prop := N64 a.2
theorem cel_role : Tryz.prog.cellsOf 115 = 2 := by kernel_rfl
set_option maxRecDepth 100000 in
theorem op_role {H : Type} {enc : TypeId × Value → H} {w : World} {base : Nat} {sp : Nat → Bool} {hd : Bool} (fuel : Nat) (cs : List Value) (x : DataW H × List MemPlace) (hlen : cs.length = 2) (h : DataW.trod enc Tryz.prog w base sp hd fuel 115 cs = some x) : ∃ a, roleE w a cs ∧ roleOK a := by
  obtain ⟨xs, n, _, _, _, hxl, hf⟩ := DataW.trod_struct Tryz.underlying115 h
  match cs, hlen with
  | [w0, w1], _ =>
    have hx0 := List.getElem?_eq_getElem (show 0 < xs.length by rw [hxl]; decide)
    have g0 : DataW.trod enc Tryz.prog w base sp hd n 9 (([w0, w1].drop 0).take (Tryz.prog.cellsOf 9)) = xs[0]? := hf 0 _ rfl
    rw [hx0, cel_str] at g0
    simp only [List.drop, List.take] at g0
    have hx1 := List.getElem?_eq_getElem (show 1 < xs.length by rw [hxl]; decide)
    have g1 : DataW.trod enc Tryz.prog w base sp hd n 3 (([w0, w1].drop 1).take (Tryz.prog.cellsOf 3)) = xs[1]? := hf 1 _ rfl
    rw [hx1, cel_int] at g1
    simp only [List.drop, List.take] at g1
    obtain ⟨a0, e0, _, _⟩ := DataW.trod_string Tryz.underlying9 g0
    simp only [List.cons.injEq, and_true] at e0
    obtain ⟨a1, e1, _, wf1⟩ := DataW.trod_int Tryz.underlying3 g1
    simp only [List.cons.injEq, and_true] at e1
    exact ⟨⟨a0, a1⟩, show _ = _ from by rw [e0, e1], bounds_i64 wf1⟩

def stageE : ElE (ByteArray × Int) := fun _ a cs => cs = [.string a.1, .int .i64 a.2]
theorem stageE_keep : KeepE stageE := fun _ _ _ _ h _ => h
def stageOK (a : ByteArray × Int) : Prop := N64 a.2
theorem cel_stage : Tryz.prog.cellsOf 122 = 2 := by kernel_rfl
set_option maxRecDepth 100000 in
theorem op_stage {H : Type} {enc : TypeId × Value → H} {w : World} {base : Nat} {sp : Nat → Bool} {hd : Bool} (fuel : Nat) (cs : List Value) (x : DataW H × List MemPlace) (hlen : cs.length = 2) (h : DataW.trod enc Tryz.prog w base sp hd fuel 122 cs = some x) : ∃ a, stageE w a cs ∧ stageOK a := by
  obtain ⟨xs, n, _, _, _, hxl, hf⟩ := DataW.trod_struct Tryz.underlying122 h
  match cs, hlen with
  | [w0, w1], _ =>
    have hx0 := List.getElem?_eq_getElem (show 0 < xs.length by rw [hxl]; decide)
    have g0 : DataW.trod enc Tryz.prog w base sp hd n 9 (([w0, w1].drop 0).take (Tryz.prog.cellsOf 9)) = xs[0]? := hf 0 _ rfl
    rw [hx0, cel_str] at g0
    simp only [List.drop, List.take] at g0
    have hx1 := List.getElem?_eq_getElem (show 1 < xs.length by rw [hxl]; decide)
    have g1 : DataW.trod enc Tryz.prog w base sp hd n 3 (([w0, w1].drop 1).take (Tryz.prog.cellsOf 3)) = xs[1]? := hf 1 _ rfl
    rw [hx1, cel_int] at g1
    simp only [List.drop, List.take] at g1
    obtain ⟨a0, e0, _, _⟩ := DataW.trod_string Tryz.underlying9 g0
    simp only [List.cons.injEq, and_true] at e0
    obtain ⟨a1, e1, _, wf1⟩ := DataW.trod_int Tryz.underlying3 g1
    simp only [List.cons.injEq, and_true] at e1
    exact ⟨⟨a0, a1⟩, show _ = _ from by rw [e0, e1], bounds_i64 wf1⟩

structure Ev where
  name : ByteArray
  role : Int
  stage : Int
  sets : List (Int)
  times : Int
def eventE : ElE (Ev) := fun w a cs => ∃ v3 : Value, cs = [.string a.name, .int .i64 a.role, .int .i64 a.stage, v3, .int .i64 a.times] ∧ RowE intE 1 w v3 a.sets
theorem eventE_keep : KeepE eventE := by
  rintro w w' a cs ⟨v3, rfl, h0⟩ hb
  exact ⟨v3, rfl, h0.below intE_keep hb⟩
def eventOK (a : Ev) : Prop := N64 a.role ∧ N64 a.stage ∧ (∀ y ∈ a.sets, N64 y) ∧ N64 a.times
theorem cel_event : Tryz.prog.cellsOf 56 = 5 := by kernel_rfl
set_option maxRecDepth 100000 in
theorem op_event {H : Type} {enc : TypeId × Value → H} {w : World} {base : Nat} {sp : Nat → Bool} {hd : Bool} (fuel : Nat) (cs : List Value) (x : DataW H × List MemPlace) (hlen : cs.length = 5) (h : DataW.trod enc Tryz.prog w base sp hd fuel 56 cs = some x) : ∃ a, eventE w a cs ∧ eventOK a := by
  obtain ⟨xs, n, _, _, _, hxl, hf⟩ := DataW.trod_struct Tryz.underlying56 h
  match cs, hlen with
  | [w0, w1, w2, w3, w4], _ =>
    have hx0 := List.getElem?_eq_getElem (show 0 < xs.length by rw [hxl]; decide)
    have g0 : DataW.trod enc Tryz.prog w base sp hd n 9 (([w0, w1, w2, w3, w4].drop 0).take (Tryz.prog.cellsOf 9)) = xs[0]? := hf 0 _ rfl
    rw [hx0, cel_str] at g0
    simp only [List.drop, List.take] at g0
    have hx1 := List.getElem?_eq_getElem (show 1 < xs.length by rw [hxl]; decide)
    have g1 : DataW.trod enc Tryz.prog w base sp hd n 3 (([w0, w1, w2, w3, w4].drop 1).take (Tryz.prog.cellsOf 3)) = xs[1]? := hf 1 _ rfl
    rw [hx1, cel_int] at g1
    simp only [List.drop, List.take] at g1
    have hx2 := List.getElem?_eq_getElem (show 2 < xs.length by rw [hxl]; decide)
    have g2 : DataW.trod enc Tryz.prog w base sp hd n 3 (([w0, w1, w2, w3, w4].drop 2).take (Tryz.prog.cellsOf 3)) = xs[2]? := hf 2 _ rfl
    rw [hx2, cel_int] at g2
    simp only [List.drop, List.take] at g2
    have hx3 := List.getElem?_eq_getElem (show 3 < xs.length by rw [hxl]; decide)
    have g3 : DataW.trod enc Tryz.prog w base sp hd n 42 (([w0, w1, w2, w3, w4].drop 3).take (Tryz.prog.cellsOf 42)) = xs[3]? := hf 3 _ rfl
    rw [hx3, cel_sl_int] at g3
    simp only [List.drop, List.take] at g3
    have hx4 := List.getElem?_eq_getElem (show 4 < xs.length by rw [hxl]; decide)
    have g4 : DataW.trod enc Tryz.prog w base sp hd n 3 (([w0, w1, w2, w3, w4].drop 4).take (Tryz.prog.cellsOf 3)) = xs[4]? := hf 4 _ rfl
    rw [hx4, cel_int] at g4
    simp only [List.drop, List.take] at g4
    obtain ⟨a0, e0, _, _⟩ := DataW.trod_string Tryz.underlying9 g0
    simp only [List.cons.injEq, and_true] at e0
    obtain ⟨a1, e1, _, wf1⟩ := DataW.trod_int Tryz.underlying3 g1
    simp only [List.cons.injEq, and_true] at e1
    obtain ⟨a2, e2, _, wf2⟩ := DataW.trod_int Tryz.underlying3 g2
    simp only [List.cons.injEq, and_true] at e2
    obtain ⟨u3, e3, T3, r3, o3⟩ := open_rowE' intE 1 N64 Tryz.underlying42 cel_int (by decide) (op_int Tryz.underlying3) rfl g3
    simp only [List.cons.injEq, and_true] at e3
    obtain ⟨a4, e4, _, wf4⟩ := DataW.trod_int Tryz.underlying3 g4
    simp only [List.cons.injEq, and_true] at e4
    exact ⟨⟨a0, a1, a2, T3, a4⟩, ⟨u3, by rw [e0, e1, e2, e3, e4], r3⟩, ⟨bounds_i64 wf1, bounds_i64 wf2, o3, bounds_i64 wf4⟩⟩

structure Gd where
  stage : Int
  event : Int
  ifs : List (Ins)
def guardE : ElE (Gd) := fun w a cs => ∃ v2 : Value, cs = [.int .i64 a.stage, .int .i64 a.event, v2] ∧ RowE instE 7 w v2 a.ifs
theorem guardE_keep : KeepE guardE := by
  rintro w w' a cs ⟨v2, rfl, h0⟩ hb
  exact ⟨v2, rfl, h0.below instE_keep hb⟩
def guardOK (a : Gd) : Prop := N64 a.stage ∧ N64 a.event ∧ (∀ y ∈ a.ifs, instOK y)
theorem cel_guard : Tryz.prog.cellsOf 52 = 3 := by kernel_rfl
set_option maxRecDepth 100000 in
theorem op_guard {H : Type} {enc : TypeId × Value → H} {w : World} {base : Nat} {sp : Nat → Bool} {hd : Bool} (fuel : Nat) (cs : List Value) (x : DataW H × List MemPlace) (hlen : cs.length = 3) (h : DataW.trod enc Tryz.prog w base sp hd fuel 52 cs = some x) : ∃ a, guardE w a cs ∧ guardOK a := by
  obtain ⟨xs, n, _, _, _, hxl, hf⟩ := DataW.trod_struct Tryz.underlying52 h
  match cs, hlen with
  | [w0, w1, w2], _ =>
    have hx0 := List.getElem?_eq_getElem (show 0 < xs.length by rw [hxl]; decide)
    have g0 : DataW.trod enc Tryz.prog w base sp hd n 3 (([w0, w1, w2].drop 0).take (Tryz.prog.cellsOf 3)) = xs[0]? := hf 0 _ rfl
    rw [hx0, cel_int] at g0
    simp only [List.drop, List.take] at g0
    have hx1 := List.getElem?_eq_getElem (show 1 < xs.length by rw [hxl]; decide)
    have g1 : DataW.trod enc Tryz.prog w base sp hd n 3 (([w0, w1, w2].drop 1).take (Tryz.prog.cellsOf 3)) = xs[1]? := hf 1 _ rfl
    rw [hx1, cel_int] at g1
    simp only [List.drop, List.take] at g1
    have hx2 := List.getElem?_eq_getElem (show 2 < xs.length by rw [hxl]; decide)
    have g2 : DataW.trod enc Tryz.prog w base sp hd n 50 (([w0, w1, w2].drop 2).take (Tryz.prog.cellsOf 50)) = xs[2]? := hf 2 _ rfl
    rw [hx2, cel_sl_inst] at g2
    simp only [List.drop, List.take] at g2
    obtain ⟨a0, e0, _, wf0⟩ := DataW.trod_int Tryz.underlying3 g0
    simp only [List.cons.injEq, and_true] at e0
    obtain ⟨a1, e1, _, wf1⟩ := DataW.trod_int Tryz.underlying3 g1
    simp only [List.cons.injEq, and_true] at e1
    obtain ⟨u2, e2, T2, r2, o2⟩ := open_rowE' instE 7 instOK Tryz.underlying50 cel_inst (by decide) op_inst rfl g2
    simp only [List.cons.injEq, and_true] at e2
    exact ⟨⟨a0, a1, T2⟩, ⟨u2, by rw [e0, e1, e2], r2⟩, ⟨bounds_i64 wf0, bounds_i64 wf1, o2⟩⟩

structure Ml where
  name : ByteArray
  stage : Int
  event : Int
  ifs : List (Ins)
  final : Bool
def mileE : ElE (Ml) := fun w a cs => ∃ v3 : Value, cs = [.string a.name, .int .i64 a.stage, .int .i64 a.event, v3, .bool a.final] ∧ RowE instE 7 w v3 a.ifs
theorem mileE_keep : KeepE mileE := by
  rintro w w' a cs ⟨v3, rfl, h0⟩ hb
  exact ⟨v3, rfl, h0.below instE_keep hb⟩
def mileOK (a : Ml) : Prop := N64 a.stage ∧ N64 a.event ∧ (∀ y ∈ a.ifs, instOK y)
theorem cel_mile : Tryz.prog.cellsOf 54 = 5 := by kernel_rfl
set_option maxRecDepth 100000 in
theorem op_mile {H : Type} {enc : TypeId × Value → H} {w : World} {base : Nat} {sp : Nat → Bool} {hd : Bool} (fuel : Nat) (cs : List Value) (x : DataW H × List MemPlace) (hlen : cs.length = 5) (h : DataW.trod enc Tryz.prog w base sp hd fuel 54 cs = some x) : ∃ a, mileE w a cs ∧ mileOK a := by
  obtain ⟨xs, n, _, _, _, hxl, hf⟩ := DataW.trod_struct Tryz.underlying54 h
  match cs, hlen with
  | [w0, w1, w2, w3, w4], _ =>
    have hx0 := List.getElem?_eq_getElem (show 0 < xs.length by rw [hxl]; decide)
    have g0 : DataW.trod enc Tryz.prog w base sp hd n 9 (([w0, w1, w2, w3, w4].drop 0).take (Tryz.prog.cellsOf 9)) = xs[0]? := hf 0 _ rfl
    rw [hx0, cel_str] at g0
    simp only [List.drop, List.take] at g0
    have hx1 := List.getElem?_eq_getElem (show 1 < xs.length by rw [hxl]; decide)
    have g1 : DataW.trod enc Tryz.prog w base sp hd n 3 (([w0, w1, w2, w3, w4].drop 1).take (Tryz.prog.cellsOf 3)) = xs[1]? := hf 1 _ rfl
    rw [hx1, cel_int] at g1
    simp only [List.drop, List.take] at g1
    have hx2 := List.getElem?_eq_getElem (show 2 < xs.length by rw [hxl]; decide)
    have g2 : DataW.trod enc Tryz.prog w base sp hd n 3 (([w0, w1, w2, w3, w4].drop 2).take (Tryz.prog.cellsOf 3)) = xs[2]? := hf 2 _ rfl
    rw [hx2, cel_int] at g2
    simp only [List.drop, List.take] at g2
    have hx3 := List.getElem?_eq_getElem (show 3 < xs.length by rw [hxl]; decide)
    have g3 : DataW.trod enc Tryz.prog w base sp hd n 50 (([w0, w1, w2, w3, w4].drop 3).take (Tryz.prog.cellsOf 50)) = xs[3]? := hf 3 _ rfl
    rw [hx3, cel_sl_inst] at g3
    simp only [List.drop, List.take] at g3
    have hx4 := List.getElem?_eq_getElem (show 4 < xs.length by rw [hxl]; decide)
    have g4 : DataW.trod enc Tryz.prog w base sp hd n 4 (([w0, w1, w2, w3, w4].drop 4).take (Tryz.prog.cellsOf 4)) = xs[4]? := hf 4 _ rfl
    rw [hx4, cel_bool] at g4
    simp only [List.drop, List.take] at g4
    obtain ⟨a0, e0, _, _⟩ := DataW.trod_string Tryz.underlying9 g0
    simp only [List.cons.injEq, and_true] at e0
    obtain ⟨a1, e1, _, wf1⟩ := DataW.trod_int Tryz.underlying3 g1
    simp only [List.cons.injEq, and_true] at e1
    obtain ⟨a2, e2, _, wf2⟩ := DataW.trod_int Tryz.underlying3 g2
    simp only [List.cons.injEq, and_true] at e2
    obtain ⟨u3, e3, T3, r3, o3⟩ := open_rowE' instE 7 instOK Tryz.underlying50 cel_inst (by decide) op_inst rfl g3
    simp only [List.cons.injEq, and_true] at e3
    obtain ⟨a4, e4, _⟩ := DataW.trod_bool Tryz.underlying4 g4
    simp only [List.cons.injEq, and_true] at e4
    exact ⟨⟨a0, a1, a2, T3, a4⟩, ⟨u3, by rw [e0, e1, e2, e3, e4], r3⟩, ⟨bounds_i64 wf1, bounds_i64 wf2, o3⟩⟩

def sodE : ElE (Int × Int) := fun _ a cs => cs = [.int .i64 a.1, .int .i64 a.2]
theorem sodE_keep : KeepE sodE := fun _ _ _ _ h _ => h
def sodOK (a : Int × Int) : Prop := N64 a.1 ∧ N64 a.2
theorem cel_sod : Tryz.prog.cellsOf 113 = 2 := by kernel_rfl
set_option maxRecDepth 100000 in
theorem op_sod {H : Type} {enc : TypeId × Value → H} {w : World} {base : Nat} {sp : Nat → Bool} {hd : Bool} (fuel : Nat) (cs : List Value) (x : DataW H × List MemPlace) (hlen : cs.length = 2) (h : DataW.trod enc Tryz.prog w base sp hd fuel 113 cs = some x) : ∃ a, sodE w a cs ∧ sodOK a := by
  obtain ⟨xs, n, _, _, _, hxl, hf⟩ := DataW.trod_struct Tryz.underlying113 h
  match cs, hlen with
  | [w0, w1], _ =>
    have hx0 := List.getElem?_eq_getElem (show 0 < xs.length by rw [hxl]; decide)
    have g0 : DataW.trod enc Tryz.prog w base sp hd n 3 (([w0, w1].drop 0).take (Tryz.prog.cellsOf 3)) = xs[0]? := hf 0 _ rfl
    rw [hx0, cel_int] at g0
    simp only [List.drop, List.take] at g0
    have hx1 := List.getElem?_eq_getElem (show 1 < xs.length by rw [hxl]; decide)
    have g1 : DataW.trod enc Tryz.prog w base sp hd n 3 (([w0, w1].drop 1).take (Tryz.prog.cellsOf 3)) = xs[1]? := hf 1 _ rfl
    rw [hx1, cel_int] at g1
    simp only [List.drop, List.take] at g1
    obtain ⟨a0, e0, _, wf0⟩ := DataW.trod_int Tryz.underlying3 g0
    simp only [List.cons.injEq, and_true] at e0
    obtain ⟨a1, e1, _, wf1⟩ := DataW.trod_int Tryz.underlying3 g1
    simp only [List.cons.injEq, and_true] at e1
    exact ⟨⟨a0, a1⟩, show _ = _ from by rw [e0, e1], ⟨bounds_i64 wf0, bounds_i64 wf1⟩⟩

def sentryE : ElE (Bool × Int) := fun _ a cs => cs = [.bool a.1, .int .i64 a.2]
theorem sentryE_keep : KeepE sentryE := fun _ _ _ _ h _ => h
def sentryOK (a : Bool × Int) : Prop := N64 a.2
theorem cel_sentry : Tryz.prog.cellsOf 118 = 2 := by kernel_rfl
set_option maxRecDepth 100000 in
theorem op_sentry {H : Type} {enc : TypeId × Value → H} {w : World} {base : Nat} {sp : Nat → Bool} {hd : Bool} (fuel : Nat) (cs : List Value) (x : DataW H × List MemPlace) (hlen : cs.length = 2) (h : DataW.trod enc Tryz.prog w base sp hd fuel 118 cs = some x) : ∃ a, sentryE w a cs ∧ sentryOK a := by
  obtain ⟨xs, n, _, _, _, hxl, hf⟩ := DataW.trod_struct Tryz.underlying118 h
  match cs, hlen with
  | [w0, w1], _ =>
    have hx0 := List.getElem?_eq_getElem (show 0 < xs.length by rw [hxl]; decide)
    have g0 : DataW.trod enc Tryz.prog w base sp hd n 4 (([w0, w1].drop 0).take (Tryz.prog.cellsOf 4)) = xs[0]? := hf 0 _ rfl
    rw [hx0, cel_bool] at g0
    simp only [List.drop, List.take] at g0
    have hx1 := List.getElem?_eq_getElem (show 1 < xs.length by rw [hxl]; decide)
    have g1 : DataW.trod enc Tryz.prog w base sp hd n 3 (([w0, w1].drop 1).take (Tryz.prog.cellsOf 3)) = xs[1]? := hf 1 _ rfl
    rw [hx1, cel_int] at g1
    simp only [List.drop, List.take] at g1
    obtain ⟨a0, e0, _⟩ := DataW.trod_bool Tryz.underlying4 g0
    simp only [List.cons.injEq, and_true] at e0
    obtain ⟨a1, e1, _, wf1⟩ := DataW.trod_int Tryz.underlying3 g1
    simp only [List.cons.injEq, and_true] at e1
    exact ⟨⟨a0, a1⟩, show _ = _ from by rw [e0, e1], bounds_i64 wf1⟩

structure Mv where
  event : Int
  user : Int
  vals : List (Int)
def moveE : ElE (Mv) := fun w a cs => ∃ v2 : Value, cs = [.int .i64 a.event, .int .i64 a.user, v2] ∧ RowE intE 1 w v2 a.vals
theorem moveE_keep : KeepE moveE := by
  rintro w w' a cs ⟨v2, rfl, h0⟩ hb
  exact ⟨v2, rfl, h0.below intE_keep hb⟩
def moveOK (a : Mv) : Prop := N64 a.event ∧ N64 a.user ∧ (∀ y ∈ a.vals, N64 y)
theorem cel_move : Tryz.prog.cellsOf 58 = 3 := by kernel_rfl
set_option maxRecDepth 100000 in
theorem op_move {H : Type} {enc : TypeId × Value → H} {w : World} {base : Nat} {sp : Nat → Bool} {hd : Bool} (fuel : Nat) (cs : List Value) (x : DataW H × List MemPlace) (hlen : cs.length = 3) (h : DataW.trod enc Tryz.prog w base sp hd fuel 58 cs = some x) : ∃ a, moveE w a cs ∧ moveOK a := by
  obtain ⟨xs, n, _, _, _, hxl, hf⟩ := DataW.trod_struct Tryz.underlying58 h
  match cs, hlen with
  | [w0, w1, w2], _ =>
    have hx0 := List.getElem?_eq_getElem (show 0 < xs.length by rw [hxl]; decide)
    have g0 : DataW.trod enc Tryz.prog w base sp hd n 3 (([w0, w1, w2].drop 0).take (Tryz.prog.cellsOf 3)) = xs[0]? := hf 0 _ rfl
    rw [hx0, cel_int] at g0
    simp only [List.drop, List.take] at g0
    have hx1 := List.getElem?_eq_getElem (show 1 < xs.length by rw [hxl]; decide)
    have g1 : DataW.trod enc Tryz.prog w base sp hd n 3 (([w0, w1, w2].drop 1).take (Tryz.prog.cellsOf 3)) = xs[1]? := hf 1 _ rfl
    rw [hx1, cel_int] at g1
    simp only [List.drop, List.take] at g1
    have hx2 := List.getElem?_eq_getElem (show 2 < xs.length by rw [hxl]; decide)
    have g2 : DataW.trod enc Tryz.prog w base sp hd n 23 (([w0, w1, w2].drop 2).take (Tryz.prog.cellsOf 23)) = xs[2]? := hf 2 _ rfl
    rw [hx2, cel_sl_i64] at g2
    simp only [List.drop, List.take] at g2
    obtain ⟨a0, e0, _, wf0⟩ := DataW.trod_int Tryz.underlying3 g0
    simp only [List.cons.injEq, and_true] at e0
    obtain ⟨a1, e1, _, wf1⟩ := DataW.trod_int Tryz.underlying3 g1
    simp only [List.cons.injEq, and_true] at e1
    obtain ⟨u2, e2, T2, r2, o2⟩ := open_rowE' intE 1 N64 Tryz.underlying23 cel_i64 (by decide) (op_int Tryz.underlying2) rfl g2
    simp only [List.cons.injEq, and_true] at e2
    exact ⟨⟨a0, a1, T2⟩, ⟨u2, by rw [e0, e1, e2], r2⟩, ⟨bounds_i64 wf0, bounds_i64 wf1, o2⟩⟩

structure Mdl where
  attrs : List (ByteArray)
  inits : List (Int)
  users : List (ByteArray)
  roles : List (ByteArray × Int)
  stages : List (ByteArray × Int)
  events : List (Ev)
  guards : List (Gd)
  miles : List (Ml)
  sods : List (Int × Int)
  order : List (Bool × Int)
def modelE : ElE (Mdl) := fun w a cs => ∃ v0 v1 v2 v3 v4 v5 v6 v7 v8 v9 : Value, cs = [v0, v1, v2, v3, v4, v5, v6, v7, v8, v9] ∧ RowE strE 1 w v0 a.attrs ∧ RowE intE 1 w v1 a.inits ∧ RowE strE 1 w v2 a.users ∧ RowE roleE 2 w v3 a.roles ∧ RowE stageE 2 w v4 a.stages ∧ RowE eventE 5 w v5 a.events ∧ RowE guardE 3 w v6 a.guards ∧ RowE mileE 5 w v7 a.miles ∧ RowE sodE 2 w v8 a.sods ∧ RowE sentryE 2 w v9 a.order
theorem modelE_keep : KeepE modelE := by
  rintro w w' a cs ⟨v0, v1, v2, v3, v4, v5, v6, v7, v8, v9, rfl, h0, h1, h2, h3, h4, h5, h6, h7, h8, h9⟩ hb
  exact ⟨v0, v1, v2, v3, v4, v5, v6, v7, v8, v9, rfl, h0.below strE_keep hb, h1.below intE_keep hb, h2.below strE_keep hb, h3.below roleE_keep hb, h4.below stageE_keep hb, h5.below eventE_keep hb, h6.below guardE_keep hb, h7.below mileE_keep hb, h8.below sodE_keep hb, h9.below sentryE_keep hb⟩
def modelOK (a : Mdl) : Prop := (∀ y ∈ a.inits, N64 y) ∧ (∀ y ∈ a.roles, roleOK y) ∧ (∀ y ∈ a.stages, stageOK y) ∧ (∀ y ∈ a.events, eventOK y) ∧ (∀ y ∈ a.guards, guardOK y) ∧ (∀ y ∈ a.miles, mileOK y) ∧ (∀ y ∈ a.sods, sodOK y) ∧ (∀ y ∈ a.order, sentryOK y)
theorem cel_model : Tryz.prog.cellsOf 32 = 10 := by kernel_rfl
set_option maxRecDepth 100000 in
theorem op_model {H : Type} {enc : TypeId × Value → H} {w : World} {base : Nat} {sp : Nat → Bool} {hd : Bool} (fuel : Nat) (cs : List Value) (x : DataW H × List MemPlace) (hlen : cs.length = 10) (h : DataW.trod enc Tryz.prog w base sp hd fuel 32 cs = some x) : ∃ a, modelE w a cs ∧ modelOK a := by
  obtain ⟨xs, n, _, _, _, hxl, hf⟩ := DataW.trod_struct Tryz.underlying32 h
  match cs, hlen with
  | [w0, w1, w2, w3, w4, w5, w6, w7, w8, w9], _ =>
    have hx0 := List.getElem?_eq_getElem (show 0 < xs.length by rw [hxl]; decide)
    have g0 : DataW.trod enc Tryz.prog w base sp hd n 22 (([w0, w1, w2, w3, w4, w5, w6, w7, w8, w9].drop 0).take (Tryz.prog.cellsOf 22)) = xs[0]? := hf 0 _ rfl
    rw [hx0, cel_sl_str] at g0
    simp only [List.drop, List.take] at g0
    have hx1 := List.getElem?_eq_getElem (show 1 < xs.length by rw [hxl]; decide)
    have g1 : DataW.trod enc Tryz.prog w base sp hd n 23 (([w0, w1, w2, w3, w4, w5, w6, w7, w8, w9].drop 1).take (Tryz.prog.cellsOf 23)) = xs[1]? := hf 1 _ rfl
    rw [hx1, cel_sl_i64] at g1
    simp only [List.drop, List.take] at g1
    have hx2 := List.getElem?_eq_getElem (show 2 < xs.length by rw [hxl]; decide)
    have g2 : DataW.trod enc Tryz.prog w base sp hd n 22 (([w0, w1, w2, w3, w4, w5, w6, w7, w8, w9].drop 2).take (Tryz.prog.cellsOf 22)) = xs[2]? := hf 2 _ rfl
    rw [hx2, cel_sl_str] at g2
    simp only [List.drop, List.take] at g2
    have hx3 := List.getElem?_eq_getElem (show 3 < xs.length by rw [hxl]; decide)
    have g3 : DataW.trod enc Tryz.prog w base sp hd n 24 (([w0, w1, w2, w3, w4, w5, w6, w7, w8, w9].drop 3).take (Tryz.prog.cellsOf 24)) = xs[3]? := hf 3 _ rfl
    rw [hx3, cel_sl_role] at g3
    simp only [List.drop, List.take] at g3
    have hx4 := List.getElem?_eq_getElem (show 4 < xs.length by rw [hxl]; decide)
    have g4 : DataW.trod enc Tryz.prog w base sp hd n 25 (([w0, w1, w2, w3, w4, w5, w6, w7, w8, w9].drop 4).take (Tryz.prog.cellsOf 25)) = xs[4]? := hf 4 _ rfl
    rw [hx4, cel_sl_stage] at g4
    simp only [List.drop, List.take] at g4
    have hx5 := List.getElem?_eq_getElem (show 5 < xs.length by rw [hxl]; decide)
    have g5 : DataW.trod enc Tryz.prog w base sp hd n 26 (([w0, w1, w2, w3, w4, w5, w6, w7, w8, w9].drop 5).take (Tryz.prog.cellsOf 26)) = xs[5]? := hf 5 _ rfl
    rw [hx5, cel_sl_event] at g5
    simp only [List.drop, List.take] at g5
    have hx6 := List.getElem?_eq_getElem (show 6 < xs.length by rw [hxl]; decide)
    have g6 : DataW.trod enc Tryz.prog w base sp hd n 27 (([w0, w1, w2, w3, w4, w5, w6, w7, w8, w9].drop 6).take (Tryz.prog.cellsOf 27)) = xs[6]? := hf 6 _ rfl
    rw [hx6, cel_sl_guard] at g6
    simp only [List.drop, List.take] at g6
    have hx7 := List.getElem?_eq_getElem (show 7 < xs.length by rw [hxl]; decide)
    have g7 : DataW.trod enc Tryz.prog w base sp hd n 28 (([w0, w1, w2, w3, w4, w5, w6, w7, w8, w9].drop 7).take (Tryz.prog.cellsOf 28)) = xs[7]? := hf 7 _ rfl
    rw [hx7, cel_sl_mile] at g7
    simp only [List.drop, List.take] at g7
    have hx8 := List.getElem?_eq_getElem (show 8 < xs.length by rw [hxl]; decide)
    have g8 : DataW.trod enc Tryz.prog w base sp hd n 29 (([w0, w1, w2, w3, w4, w5, w6, w7, w8, w9].drop 8).take (Tryz.prog.cellsOf 29)) = xs[8]? := hf 8 _ rfl
    rw [hx8, cel_sl_sod] at g8
    simp only [List.drop, List.take] at g8
    have hx9 := List.getElem?_eq_getElem (show 9 < xs.length by rw [hxl]; decide)
    have g9 : DataW.trod enc Tryz.prog w base sp hd n 30 (([w0, w1, w2, w3, w4, w5, w6, w7, w8, w9].drop 9).take (Tryz.prog.cellsOf 30)) = xs[9]? := hf 9 _ rfl
    rw [hx9, cel_sl_sentry] at g9
    simp only [List.drop, List.take] at g9
    obtain ⟨u0, e0, T0, r0, o0⟩ := open_rowE' strE 1 (fun _ => True) Tryz.underlying22 cel_str (by decide) op_str rfl g0
    simp only [List.cons.injEq, and_true] at e0
    obtain ⟨u1, e1, T1, r1, o1⟩ := open_rowE' intE 1 N64 Tryz.underlying23 cel_i64 (by decide) (op_int Tryz.underlying2) rfl g1
    simp only [List.cons.injEq, and_true] at e1
    obtain ⟨u2, e2, T2, r2, o2⟩ := open_rowE' strE 1 (fun _ => True) Tryz.underlying22 cel_str (by decide) op_str rfl g2
    simp only [List.cons.injEq, and_true] at e2
    obtain ⟨u3, e3, T3, r3, o3⟩ := open_rowE' roleE 2 roleOK Tryz.underlying24 cel_role (by decide) op_role rfl g3
    simp only [List.cons.injEq, and_true] at e3
    obtain ⟨u4, e4, T4, r4, o4⟩ := open_rowE' stageE 2 stageOK Tryz.underlying25 cel_stage (by decide) op_stage rfl g4
    simp only [List.cons.injEq, and_true] at e4
    obtain ⟨u5, e5, T5, r5, o5⟩ := open_rowE' eventE 5 eventOK Tryz.underlying26 cel_event (by decide) op_event rfl g5
    simp only [List.cons.injEq, and_true] at e5
    obtain ⟨u6, e6, T6, r6, o6⟩ := open_rowE' guardE 3 guardOK Tryz.underlying27 cel_guard (by decide) op_guard rfl g6
    simp only [List.cons.injEq, and_true] at e6
    obtain ⟨u7, e7, T7, r7, o7⟩ := open_rowE' mileE 5 mileOK Tryz.underlying28 cel_mile (by decide) op_mile rfl g7
    simp only [List.cons.injEq, and_true] at e7
    obtain ⟨u8, e8, T8, r8, o8⟩ := open_rowE' sodE 2 sodOK Tryz.underlying29 cel_sod (by decide) op_sod rfl g8
    simp only [List.cons.injEq, and_true] at e8
    obtain ⟨u9, e9, T9, r9, o9⟩ := open_rowE' sentryE 2 sentryOK Tryz.underlying30 cel_sentry (by decide) op_sentry rfl g9
    simp only [List.cons.injEq, and_true] at e9
    exact ⟨⟨T0, T1, T2, T3, T4, T5, T6, T7, T8, T9⟩, ⟨u0, u1, u2, u3, u4, u5, u6, u7, u8, u9, by rw [e0, e1, e2, e3, e4, e5, e6, e7, e8, e9], r0, r1, r2, r3, r4, r5, r6, r7, r8, r9⟩, ⟨o1, o3, o4, o5, o6, o7, o8, o9⟩⟩

end Go.Proofs.YtadjnfpomjopkaaGreat
