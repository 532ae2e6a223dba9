/- Rows of whatever elements, wherever they lie; and how they are opened where they came in. Arguments: rows of numbers of 64 bits, three numbers. -/
import Derived.Test.YtkkoooagamadjaaGreatDoorPk01
import Derived.Deep.Slices
import Derived.ChangeArms
import Derived.OpenShut
import Derived.Test.YtkkoooagamadjaaGreatDoorPk11

namespace Go.Proofs.YtkkoooagamadjaaGreatDoor
open Go.RowKit Go.ChangeShapes Go.WideShapes Go.Deep

/-- what an element's cells are, in a world -/
abbrev ElE (α : Type) := World → α → List Value → Prop
/-- it stays where nothing older turns -/
def KeepE {α : Type} (E : ElE α) : Prop := ∀ (w w' : World) (a : α) (cs : List Value), E w a cs → Below w.heap.size w w' → E w' a cs

/-- a slice of elements of k cells, wherever it lies -/
def RowE {α : Type} (E : ElE α) (k : Nat) (w : World) (v : Value) (T : List α) : Prop :=
  ∃ ad cap, v = .slice ad T.length cap ∧ ((ad = none → cap = 0) ∧ T.length ≤ cap ∧ cap ≤ maxLen) ∧ (T = [] ∨ ∃ b off, ad = some ⟨b, off, none⟩ ∧ b < w.heap.size ∧ ∀ i a, T[i]? = some a → ∃ cs : List Value, cs.length = k ∧ E w a cs ∧ ∀ j u, cs[j]? = some u → w.cell? ⟨b, off + i * k + j, none⟩ = some u)
theorem RowE.below {α : Type} {E : ElE α} {k : Nat} {w w' : World} {v : Value} {T : List α} (h : RowE E k w v T) (hE : KeepE E) (hb : Below w.heap.size w w') : RowE E k w' v T := by
  obtain ⟨ad, cap, hv, hz, h⟩ := h
  refine ⟨ad, cap, hv, hz, ?_⟩
  rcases h with h | ⟨b, off, ha, hg, hc⟩
  · exact .inl h
  · refine .inr ⟨b, off, ha, Nat.lt_of_lt_of_le hg hb.size, fun i a hi => ?_⟩
    obtain ⟨cs, h1, h2, h3⟩ := hc i a hi
    exact ⟨cs, h1, hE _ _ _ _ h2 hb, fun j u hu => (hb.cell (p := ⟨b, off + i * k + j, none⟩) hg).trans (h3 j u hu)⟩
theorem RowE.len {α : Type} {E : ElE α} {k : Nat} {w : World} {v : Value} {T : List α} (h : RowE E k w v T) : ∃ ad cap, v = .slice ad T.length cap := by
  obtain ⟨ad, cap, hv, _⟩ := h; exact ⟨ad, cap, hv⟩
theorem RowE.max {α : Type} {E : ElE α} {k : Nat} {w : World} {v : Value} {T : List α} (h : RowE E k w v T) : T.length ≤ 9223372036854775807 := by
  obtain ⟨ad, cap, _, ⟨_, h1, h2⟩, _⟩ := h; unfold maxLen at h2; omega
theorem RowE.at {α : Type} {E : ElE α} {k : Nat} {w : World} {v : Value} {T : List α} (h : RowE E k w v T) {i : Nat} {a : α} (hi : T[i]? = some a) :
    ∃ b off cap cs, v = .slice (some ⟨b, off, none⟩) T.length cap ∧ b < w.heap.size ∧ cs.length = k ∧ E w a cs ∧ ∀ j u, cs[j]? = some u → w.cell? ⟨b, off + i * k + j, none⟩ = some u := by
  obtain ⟨ad, cap, rfl, _, h⟩ := h
  rcases h with rfl | ⟨b, off, rfl, hg, hc⟩
  · simp at hi
  · obtain ⟨cs, h1, h2, h3⟩ := hc i a hi
    exact ⟨b, off, cap, cs, rfl, hg, h1, h2, h3⟩
theorem RowE.nil {α : Type} (E : ElE α) (k : Nat) (w : World) : RowE E k w (.slice none 0 0) [] := ⟨none, 0, rfl, ⟨fun _ => rfl, Nat.le_refl _, by unfold maxLen; omega⟩, .inl rfl⟩

/-- strings, numbers -/
def strE : ElE ByteArray := fun _ s cs => cs = [.string s]
def intE : ElE Int := fun _ n cs => cs = [.int .i64 n]
theorem strE_keep : KeepE strE := fun _ _ _ _ h _ => h
theorem intE_keep : KeepE intE := fun _ _ _ _ h _ => h
theorem RowE.str {w : World} {v : Value} {T : List ByteArray} (h : RowE strE 1 w v T) {i : Nat} {s : ByteArray} (hi : T[i]? = some s) :
    ∃ b off cap, v = .slice (some ⟨b, off, none⟩) T.length cap ∧ b < w.heap.size ∧ w.cell? ⟨b, off + i, none⟩ = some (.string s) := by
  obtain ⟨b, off, cap, cs, hv, hb, _, he, hc⟩ := h.at hi
  subst he
  exact ⟨b, off, cap, hv, hb, by have := hc 0 _ rfl; rwa [Nat.mul_one, Nat.add_zero] at this⟩
theorem RowE.int {w : World} {v : Value} {T : List Int} (h : RowE intE 1 w v T) {i : Nat} {n : Int} (hi : T[i]? = some n) :
    ∃ b off cap, v = .slice (some ⟨b, off, none⟩) T.length cap ∧ b < w.heap.size ∧ w.cell? ⟨b, off + i, none⟩ = some (.int .i64 n) := by
  obtain ⟨b, off, cap, cs, hv, hb, _, he, hc⟩ := h.at hi
  subst he
  exact ⟨b, off, cap, hv, hb, by have := hc 0 _ rfl; rwa [Nat.mul_one, Nat.add_zero] at this⟩

section
variable {H : Type} {enc : TypeId × Value → H} {w : World} {base : Nat} {sp : Nat → Bool} {hd : Bool}

/-- a slice that came in is a row -/
theorem open_rowE {α : Type} (E : ElE α) (k : Nat) (p : α → Prop) {t e : TypeId} (ht : Tryz.prog.underlying t = some (.slice e)) (hk : Tryz.prog.cellsOf e = k) (hk0 : 0 < k)
    (hE : ∀ (fuel : Nat) (cs : List Value) (x : DataW H × List MemPlace), cs.length = k → DataW.trod enc Tryz.prog w base sp hd fuel e cs = some x → ∃ a, E w a cs ∧ p a)
    {fuel : Nat} {v : Value} {x : DataW H × List MemPlace} (h : DataW.trod enc Tryz.prog w base sp hd fuel t [v] = some x) :
    ∃ T : List α, RowE E k w v T ∧ ∀ a ∈ T, p a := by
  rcases open_slice ht h with ⟨he, _⟩ | ⟨a, len, c, m, kk, D, Pl, he, hb, hl, hm, hmm, hx, hall⟩
  · simp only [List.cons.injEq, and_true] at he
    subst he
    exact ⟨[], RowE.nil _ _ _, fun y hy => by cases hy⟩
  · simp only [List.cons.injEq, and_true] at he
    subst he
    by_cases h0 : len = 0
    · subst h0
      exact ⟨[], ⟨_, c, rfl, ⟨fun e => (by cases e), hl, hm⟩, .inl rfl⟩, fun y hy => by cases hy⟩
    have hnm : len ≤ m := by rw [hmm]; split <;> omega
    have each : ∀ i, i < len → ∃ q : α × List Value, q.2.length = k ∧ E w q.1 q.2 ∧ p q.1 ∧ ∀ j u, q.2[j]? = some u → w.cell? (a.add (i * k + j)) = some u := by
      intro i hi
      obtain ⟨cs, h1, h2⟩ := hall i (by omega)
      rw [hk] at h1
      obtain ⟨_, hlen, hcell⟩ := World.cells?_some h1
      obtain ⟨y, e1, e2⟩ := hE _ _ _ hlen h2
      refine ⟨(y, cs), hlen, e1, e2, fun j u hu => ?_⟩
      have hj := (List.getElem?_eq_some_iff.1 hu).1
      have := hcell j (by dsimp only at hj; omega)
      rw [add_add] at this
      rw [this]; exact hu
    haveI : Inhabited (α × List Value) := ⟨(each 0 (by omega)).choose⟩
    obtain ⟨q, hq⟩ := choose_lt each
    obtain ⟨l0, _, _, c0⟩ := hq 0 (by omega)
    have hz := c0 0 _ (List.getElem?_eq_getElem (by omega))
    obtain ⟨b, off, spot⟩ := a
    have hspot : spot = none := by simpa [Addr.add] using World.cell?_spot hz
    subst hspot
    have hadd : ∀ i, (⟨b, off, none⟩ : Addr).add i = ⟨b, off + i, none⟩ := fun i => by unfold Addr.add; split <;> simp_all
    refine ⟨(List.range len).map fun i => (q i).1, ⟨_, c, by simp, ⟨fun e => (by cases e), by simpa using hl, hm⟩, .inr ⟨b, off, rfl, World.block_lt_of_cell? w _ (by rw [hadd] at hz; exact hz), fun i y hy => ?_⟩⟩, ?_⟩
    · have hi : i < len := by have := (List.getElem?_eq_some_iff.1 hy).1; simpa using this
      have hy' : y = (q i).1 := by simpa [hi] using hy.symm
      subst hy'
      obtain ⟨e1, e2, _, e4⟩ := hq i hi
      refine ⟨_, e1, e2, fun j u hu => ?_⟩
      have := e4 j u hu
      rw [hadd] at this
      rw [Nat.add_assoc]; exact this
    · intro y hy
      obtain ⟨i, hi, rfl⟩ := List.mem_map.1 hy
      exact (hq i (by simpa using hi)).2.2.1
theorem open_rowE' {α : Type} (E : ElE α) (k : Nat) (p : α → Prop) {t e : TypeId} (ht : Tryz.prog.underlying t = some (.slice e)) (hk : Tryz.prog.cellsOf e = k) (hk0 : 0 < k)
    (hE : ∀ (fuel : Nat) (cs : List Value) (x : DataW H × List MemPlace), cs.length = k → DataW.trod enc Tryz.prog w base sp hd fuel e cs = some x → ∃ a, E w a cs ∧ p a)
    {fuel : Nat} {cs : List Value} (hc : cs.length = 1) {x : DataW H × List MemPlace} (h : DataW.trod enc Tryz.prog w base sp hd fuel t cs = some x) :
    ∃ v, cs = [v] ∧ ∃ T : List α, RowE E k w v T ∧ ∀ a ∈ T, p a := by
  match cs, hc with
  | [v], _ => exact ⟨v, rfl, open_rowE E k p ht hk hk0 hE h⟩
end
end Go.Proofs.YtkkoooagamadjaaGreatDoor

namespace Go.Proofs.YtkkoooagamadjaaGreatDoor
open Go.RowKit Go.ChangeShapes Go.WideShapes Go.Deep

section
variable {H : Type} {enc : TypeId × Value → H} {w : World} {base : Nat} {sp : Nat → Bool} {hd : Bool}
theorem cel_i64Z : Tryz.prog.cellsOf 2 = 1 := by kernel_rfl
theorem Reads.of_rowE {w : World} {v : Value} {T : List Int} (h : RowE intE 1 w v T) : Reads w v (ints T) := by
  have hm := h.max
  obtain ⟨ad, cap, rfl, _, h⟩ := h
  rcases h with rfl | ⟨b, off, rfl, hb, hc⟩
  · exact .inl ⟨ad, cap, rfl, rfl⟩
  · refine .inr ⟨b, off, cap, by rw [ints_len], hb, by rw [ints_len]; exact hm, fun t x hx => ?_⟩
    unfold ints at hx
    rw [List.getElem?_map] at hx
    cases ht : T[t]? with
    | none => rw [ht] at hx; cases hx
    | some n =>
      rw [ht] at hx
      cases hx
      obtain ⟨cs, _, he, hcell⟩ := hc t n ht
      have he : cs = [.int .i64 n] := he
      subst he
      have := hcell 0 _ rfl
      rwa [Nat.mul_one, Nat.add_zero] at this
theorem open_i64s {fuel : Nat} {v : Value} {x : DataW H × List MemPlace} (h : DataW.trod enc Tryz.prog w base sp hd fuel 22 [v] = some x) : ∃ T : List Int, RowE intE 1 w v T ∧ ∀ n ∈ T, -9223372036854775808 ≤ n ∧ n ≤ 9223372036854775807 := by
  obtain ⟨T, hr, hp⟩ := open_rowE intE 1 (fun n => -9223372036854775808 ≤ n ∧ n ≤ 9223372036854775807) Tryz.underlying22 cel_i64Z (by decide) (fun fuel cs x _ h => by
    obtain ⟨a, ha, _, wf⟩ := DataW.trod_int Tryz.underlying2 h
    exact ⟨a, ha, bounds_i64 wf⟩) h
  exact ⟨T, hr, hp⟩
theorem mapM_intsZ {P : Program} {e : TypeId} {q : IntKind} (he : P.underlying e = some (.int q)) {m : Nat} {cs : List Value} {c : Nat} :
    ∀ (L : List Nat) (xs : List (DataW H × List MemPlace)), L.mapM (fun i => DataW.trod enc P w base sp hd m e ((cs.drop (i * c)).take c)) = some xs → ∀ i ∈ L, ∃ a, (cs.drop (i * c)).take c = [.int q a]
  | [], _, _, i, hi => by simp at hi
  | j :: L, xs, h, i, hi => by
    rw [List.mapM_cons] at h
    simp only [bind, Option.bind_eq_some_iff, pure, Option.some.injEq] at h
    obtain ⟨y, hy, ys, hys, rfl⟩ := h
    obtain ⟨a, ea, _, _⟩ := DataW.trod_int he hy
    rcases List.mem_cons.1 hi with rfl | hi
    · exact ⟨a, ea⟩
    · exact mapM_intsZ he L ys hys i hi
theorem open_arr3Z {P : Program} {k e : TypeId} {q : IntKind} (hu : P.underlying k = some (.array 3 e)) (he : P.underlying e = some (.int q)) (hone : P.cellsOf e = 1) (hsz : P.cellsOf k = 3)
    {xs : Array Value} (hn : xs.size = 3) {d : DataW H} {ps : List MemPlace} (hd : DataW.Trod enc P w base sp hd k (.agg xs) d ps) : ∃ a b c, xs = #[.int q a, .int q b, .int q c] := by
  obtain ⟨fuel, hf⟩ := hd
  cases fuel with
  | zero => simp [DataW.trod] at hf
  | succ m =>
    rw [DataW.trod_step] at hf
    unfold DataW.trodStep at hf
    simp only [hu, Value.cells] at hf
    rw [if_pos (by rw [hsz]; simpa using hn)] at hf
    simp only [Option.map_eq_some_iff] at hf
    obtain ⟨ys, hy, _⟩ := hf
    have h := mapM_intsZ he _ ys hy
    obtain ⟨x0, x1, x2, rfl⟩ : ∃ x0 x1 x2, xs = #[x0, x1, x2] := by
      obtain ⟨l⟩ := xs
      match l, hn with
      | [x0, x1, x2], _ => exact ⟨x0, x1, x2, rfl⟩
    obtain ⟨a, ha⟩ := h 0 (by simp)
    obtain ⟨b, hb⟩ := h 1 (by simp)
    obtain ⟨c, hc⟩ := h 2 (by simp)
    rw [hone] at ha hb hc
    simp at ha hb hc
    exact ⟨a, b, c, by rw [ha, hb, hc]⟩
end
end Go.Proofs.YtkkoooagamadjaaGreatDoor
