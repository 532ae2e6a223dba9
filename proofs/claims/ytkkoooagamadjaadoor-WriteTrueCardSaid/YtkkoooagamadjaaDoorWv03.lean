/- Rows of whatever elements, wherever they lie; and how they are opened where they came in. Arguments: rows of zones, rows of numbers of 64 bits, three numbers. 'warder/warderlaw25.WriteTrue' returns true for every input and leaves its arguments as they were; no condition. The row lists package-level variables of Go's library with what they hold at the start; the card ties them to the program's text. -/
import Derived.Test.YtkkoooagamadjaaDoorWu01
import Derived.Deep.Slices
import Derived.ChangeArms
import Derived.OpenShut
import Derived.Test.YtkkoooagamadjaaDoorWu23
import Derived.Test.YtkkoooagamadjaaDoorWv01
import Derived.Test.YtkkoooagamadjaaDoorWv02
import Derived.Test.YtkkoooagamadjaaDoorCards
import Derived.Test.YtkkoooagamadjaaDoorTie
import Derived.Test.YtkkoooagamadjaaDoorShelf
import Derived.WalkKit
import Derived.ProofKit
import Derived.ChangeOld
import Derived.Below
import Derived.ShutString
import Derived.Deep.DeepHandedRow
import Derived.Lay
import Derived.Stop.Joined
import Derived.Stop.LaidErr
import Derived.MakeChecks
import Derived.SizedLaws

namespace Go.Proofs.YtkkoooagamadjaaDoor
open Go.RowKit Go.ChangeShapes Go.WideShapes Go.Deep

/-- what an element's cells are, in a world -/
abbrev ElE (α : Type) := World → α → List Value → Prop
/-- it stays where nothing older turns -/
def KeepE {α : Type} (E : ElE α) : Prop := ∀ (w w' : World) (a : α) (cs : List Value), E w a cs → Below w.heap.size w w' → E w' a cs

/-- a slice of elements of k cells, wherever it lies -/
def RowE {α : Type} (E : ElE α) (k : Nat) (w : World) (v : Value) (T : List α) : Prop :=
  ∃ ad cap, v = .slice ad T.length cap ∧ ((ad = none → cap = 0) ∧ T.length ≤ cap ∧ cap ≤ maxLen) ∧ (T = [] ∨ ∃ b off, ad = some ⟨b, off, none⟩ ∧ b < w.heap.size ∧ ∀ i a, T[i]? = some a → ∃ cs : List Value, cs.length = k ∧ E w a cs ∧ ∀ j u, cs[j]? = some u → w.cell? ⟨b, off + i * k + j, none⟩ = some u)
theorem RowE.below {α : Type} {E : ElE α} {k : Nat} {w w' : World} {v : Value} {T : List α} (h : RowE E k w v T) (hE : KeepE E) (hb : Below w.heap.size w w') : RowE E k w' v T := by
  obtain ⟨ad, cap, hv, hz, h⟩ := h
  refine ⟨ad, cap, hv, hz, ?_⟩
  rcases h with h | ⟨b, off, ha, hg, hc⟩
  · exact .inl h
  · refine .inr ⟨b, off, ha, Nat.lt_of_lt_of_le hg hb.size, fun i a hi => ?_⟩
    obtain ⟨cs, h1, h2, h3⟩ := hc i a hi
    exact ⟨cs, h1, hE _ _ _ _ h2 hb, fun j u hu => (hb.cell (p := ⟨b, off + i * k + j, none⟩) hg).trans (h3 j u hu)⟩
theorem RowE.len {α : Type} {E : ElE α} {k : Nat} {w : World} {v : Value} {T : List α} (h : RowE E k w v T) : ∃ ad cap, v = .slice ad T.length cap := by
  obtain ⟨ad, cap, hv, _⟩ := h; exact ⟨ad, cap, hv⟩
theorem RowE.max {α : Type} {E : ElE α} {k : Nat} {w : World} {v : Value} {T : List α} (h : RowE E k w v T) : T.length ≤ 9223372036854775807 := by
  obtain ⟨ad, cap, _, ⟨_, h1, h2⟩, _⟩ := h; unfold maxLen at h2; omega
theorem RowE.at {α : Type} {E : ElE α} {k : Nat} {w : World} {v : Value} {T : List α} (h : RowE E k w v T) {i : Nat} {a : α} (hi : T[i]? = some a) :
    ∃ b off cap cs, v = .slice (some ⟨b, off, none⟩) T.length cap ∧ b < w.heap.size ∧ cs.length = k ∧ E w a cs ∧ ∀ j u, cs[j]? = some u → w.cell? ⟨b, off + i * k + j, none⟩ = some u := by
  obtain ⟨ad, cap, rfl, _, h⟩ := h
  rcases h with rfl | ⟨b, off, rfl, hg, hc⟩
  · simp at hi
  · obtain ⟨cs, h1, h2, h3⟩ := hc i a hi
    exact ⟨b, off, cap, cs, rfl, hg, h1, h2, h3⟩
theorem RowE.nil {α : Type} (E : ElE α) (k : Nat) (w : World) : RowE E k w (.slice none 0 0) [] := ⟨none, 0, rfl, ⟨fun _ => rfl, Nat.le_refl _, by unfold maxLen; omega⟩, .inl rfl⟩

/-- strings, numbers -/
def strE : ElE ByteArray := fun _ s cs => cs = [.string s]
def intE : ElE Int := fun _ n cs => cs = [.int .i64 n]
theorem strE_keep : KeepE strE := fun _ _ _ _ h _ => h
theorem intE_keep : KeepE intE := fun _ _ _ _ h _ => h
theorem RowE.str {w : World} {v : Value} {T : List ByteArray} (h : RowE strE 1 w v T) {i : Nat} {s : ByteArray} (hi : T[i]? = some s) :
    ∃ b off cap, v = .slice (some ⟨b, off, none⟩) T.length cap ∧ b < w.heap.size ∧ w.cell? ⟨b, off + i, none⟩ = some (.string s) := by
  obtain ⟨b, off, cap, cs, hv, hb, _, he, hc⟩ := h.at hi
  subst he
  exact ⟨b, off, cap, hv, hb, by have := hc 0 _ rfl; rwa [Nat.mul_one, Nat.add_zero] at this⟩
theorem RowE.int {w : World} {v : Value} {T : List Int} (h : RowE intE 1 w v T) {i : Nat} {n : Int} (hi : T[i]? = some n) :
    ∃ b off cap, v = .slice (some ⟨b, off, none⟩) T.length cap ∧ b < w.heap.size ∧ w.cell? ⟨b, off + i, none⟩ = some (.int .i64 n) := by
  obtain ⟨b, off, cap, cs, hv, hb, _, he, hc⟩ := h.at hi
  subst he
  exact ⟨b, off, cap, hv, hb, by have := hc 0 _ rfl; rwa [Nat.mul_one, Nat.add_zero] at this⟩

section
variable {H : Type} {enc : TypeId × Value → H} {w : World} {base : Nat} {sp : Nat → Bool} {hd : Bool}

/-- a slice that came in is a row -/
theorem open_rowE {α : Type} (E : ElE α) (k : Nat) (p : α → Prop) {t e : TypeId} (ht : Tryd.prog.underlying t = some (.slice e)) (hk : Tryd.prog.cellsOf e = k) (hk0 : 0 < k)
    (hE : ∀ (fuel : Nat) (cs : List Value) (x : DataW H × List MemPlace), cs.length = k → DataW.trod enc Tryd.prog w base sp hd fuel e cs = some x → ∃ a, E w a cs ∧ p a)
    {fuel : Nat} {v : Value} {x : DataW H × List MemPlace} (h : DataW.trod enc Tryd.prog w base sp hd fuel t [v] = some x) :
    ∃ T : List α, RowE E k w v T ∧ ∀ a ∈ T, p a := by
  rcases open_slice ht h with ⟨he, _⟩ | ⟨a, len, c, m, kk, D, Pl, he, hb, hl, hm, hmm, hx, hall⟩
  · simp only [List.cons.injEq, and_true] at he
    subst he
    exact ⟨[], RowE.nil _ _ _, fun y hy => by cases hy⟩
  · simp only [List.cons.injEq, and_true] at he
    subst he
    by_cases h0 : len = 0
    · subst h0
      exact ⟨[], ⟨_, c, rfl, ⟨fun e => (by cases e), hl, hm⟩, .inl rfl⟩, fun y hy => by cases hy⟩
    have hnm : len ≤ m := by rw [hmm]; split <;> omega
    have each : ∀ i, i < len → ∃ q : α × List Value, q.2.length = k ∧ E w q.1 q.2 ∧ p q.1 ∧ ∀ j u, q.2[j]? = some u → w.cell? (a.add (i * k + j)) = some u := by
      intro i hi
      obtain ⟨cs, h1, h2⟩ := hall i (by omega)
      rw [hk] at h1
      obtain ⟨_, hlen, hcell⟩ := World.cells?_some h1
      obtain ⟨y, e1, e2⟩ := hE _ _ _ hlen h2
      refine ⟨(y, cs), hlen, e1, e2, fun j u hu => ?_⟩
      have hj := (List.getElem?_eq_some_iff.1 hu).1
      have := hcell j (by dsimp only at hj; omega)
      rw [add_add] at this
      rw [this]; exact hu
    haveI : Inhabited (α × List Value) := ⟨(each 0 (by omega)).choose⟩
    obtain ⟨q, hq⟩ := choose_lt each
    obtain ⟨l0, _, _, c0⟩ := hq 0 (by omega)
    have hz := c0 0 _ (List.getElem?_eq_getElem (by omega))
    obtain ⟨b, off, spot⟩ := a
    have hspot : spot = none := by simpa [Addr.add] using World.cell?_spot hz
    subst hspot
    have hadd : ∀ i, (⟨b, off, none⟩ : Addr).add i = ⟨b, off + i, none⟩ := fun i => by unfold Addr.add; split <;> simp_all
    refine ⟨(List.range len).map fun i => (q i).1, ⟨_, c, by simp, ⟨fun e => (by cases e), by simpa using hl, hm⟩, .inr ⟨b, off, rfl, World.block_lt_of_cell? w _ (by rw [hadd] at hz; exact hz), fun i y hy => ?_⟩⟩, ?_⟩
    · have hi : i < len := by have := (List.getElem?_eq_some_iff.1 hy).1; simpa using this
      have hy' : y = (q i).1 := by simpa [hi] using hy.symm
      subst hy'
      obtain ⟨e1, e2, _, e4⟩ := hq i hi
      refine ⟨_, e1, e2, fun j u hu => ?_⟩
      have := e4 j u hu
      rw [hadd] at this
      rw [Nat.add_assoc]; exact this
    · intro y hy
      obtain ⟨i, hi, rfl⟩ := List.mem_map.1 hy
      exact (hq i (by simpa using hi)).2.2.1
theorem open_rowE' {α : Type} (E : ElE α) (k : Nat) (p : α → Prop) {t e : TypeId} (ht : Tryd.prog.underlying t = some (.slice e)) (hk : Tryd.prog.cellsOf e = k) (hk0 : 0 < k)
    (hE : ∀ (fuel : Nat) (cs : List Value) (x : DataW H × List MemPlace), cs.length = k → DataW.trod enc Tryd.prog w base sp hd fuel e cs = some x → ∃ a, E w a cs ∧ p a)
    {fuel : Nat} {cs : List Value} (hc : cs.length = 1) {x : DataW H × List MemPlace} (h : DataW.trod enc Tryd.prog w base sp hd fuel t cs = some x) :
    ∃ v, cs = [v] ∧ ∃ T : List α, RowE E k w v T ∧ ∀ a ∈ T, p a := by
  match cs, hc with
  | [v], _ => exact ⟨v, rfl, open_rowE E k p ht hk hk0 hE h⟩
end
end Go.Proofs.YtkkoooagamadjaaDoor

namespace Go.Proofs.YtkkoooagamadjaaDoor
open Go.RowKit Go.ChangeShapes Go.WideShapes Go.Deep

def zoneE : ElE Zn := fun w z cs => ∃ v1 v2, cs = [v1, v2] ∧ ZoneIn w v1 v2 z.1 z.2
theorem ZIs.of_rowE {w : World} {v : Value} {zs : List Zn} (h : RowE zoneE 2 w v zs) : ZIs w v zs := by
  obtain ⟨ad, cap, rfl, _, h⟩ := h
  rcases h with rfl | ⟨b, off, rfl, hb, hc⟩
  · exact ⟨[], rfl, ⟨ad, cap, rfl, rfl, .inl rfl⟩, fun i p z h => by simp at h⟩
  · have each : ∀ i, i < zs.length → ∃ q : Value × Value, ∀ z, zs[i]? = some z → ZoneIn w q.1 q.2 z.1 z.2 ∧ w.cell? ⟨b, off + i * 2, none⟩ = some q.1 ∧ w.cell? ⟨b, off + i * 2 + 1, none⟩ = some q.2 := by
      intro i hi
      obtain ⟨cs, _, ⟨v1, v2, e, hz⟩, hcell⟩ := hc i _ (List.getElem?_eq_getElem hi)
      subst e
      refine ⟨(v1, v2), fun z hz2 => ?_⟩
      rw [List.getElem?_eq_getElem hi] at hz2
      cases hz2
      exact ⟨hz, hcell 0 _ rfl, hcell 1 _ rfl⟩
    haveI : Inhabited (Value × Value) := ⟨(.slice none 0 0, .slice none 0 0)⟩
    obtain ⟨q, hq⟩ := choose_lt each
    have hg : ∀ i, i < zs.length → ((List.range zs.length).map q)[i]? = some (q i) := fun i hi => by simp [hi]
    refine ⟨(List.range zs.length).map q, by simp, ⟨_, cap, rfl, by rw [zcells_len]; simp, .inr ⟨b, off, rfl, hb, fun t x hx => ?_⟩⟩, fun i p z h1 h2 => ?_⟩
    · have ht := (List.getElem?_eq_some_iff.1 hx).1
      rw [zcells_len, List.length_map, List.length_range] at ht
      obtain ⟨i, hi, e⟩ : ∃ i, i < zs.length ∧ (t = i * 2 ∨ t = i * 2 + 1) := ⟨t / 2, by omega, by omega⟩
      obtain ⟨q1, q2⟩ := zcells_get _ _ _ (hg i hi)
      obtain ⟨_, e1, e2⟩ := hq i hi _ (List.getElem?_eq_getElem hi)
      rcases e with rfl | rfl
      · rw [q1] at hx; cases hx; exact e1
      · rw [q2] at hx; cases hx; rw [← Nat.add_assoc]; exact e2
    · have hi := (List.getElem?_eq_some_iff.1 h2).1
      rw [hg i hi] at h1
      cases h1
      exact (hq i hi z h2).1

section
variable {H : Type} {enc : TypeId × Value → H} {w : World} {base : Nat} {sp : Nat → Bool} {hd : Bool}
theorem open_zoneZ {fuel : Nat} {cs : List Value} {x : DataW H × List MemPlace} (h : DataW.trod enc Tryd.prog w base sp hd fuel 26 cs = some x) :
    ∃ (z : Zn) (v1 v2 : Value), cs = [v1, v2] ∧ ZoneIn w v1 v2 z.1 z.2 ∧ I64 z := by
  obtain ⟨v1, v2, cl, gl, e, hz, _, h1, h2⟩ := open_zone h
  exact ⟨(cl, gl), v1, v2, e, hz, fun c hc => h1 c hc, fun g hg => h2 g hg⟩
theorem open_zones {fuel : Nat} {v : Value} {x : DataW H × List MemPlace} (h : DataW.trod enc Tryd.prog w base sp hd fuel 22 [v] = some x) : ∃ zs : List Zn, ZIs w v zs ∧ ∀ z ∈ zs, I64 z := by
  obtain ⟨T, hr, hp⟩ := open_rowE zoneE 2 I64 Tryd.underlying22 celz_zone (by decide) (fun fuel cs x _ h => by
    obtain ⟨z, v1, v2, e, hz, hi⟩ := open_zoneZ h
    exact ⟨z, ⟨v1, v2, e, hz⟩, hi⟩) h
  exact ⟨T, .of_rowE hr, hp⟩
theorem cel_i64Z : Tryd.prog.cellsOf 2 = 1 := by kernel_rfl
theorem Reads.of_rowE {w : World} {v : Value} {T : List Int} (h : RowE intE 1 w v T) : Reads w v (ints T) := by
  have hm := h.max
  obtain ⟨ad, cap, rfl, _, h⟩ := h
  rcases h with rfl | ⟨b, off, rfl, hb, hc⟩
  · exact .inl ⟨ad, cap, rfl, rfl⟩
  · refine .inr ⟨b, off, cap, by rw [ints_len], hb, by rw [ints_len]; exact hm, fun t x hx => ?_⟩
    unfold ints at hx
    rw [List.getElem?_map] at hx
    cases ht : T[t]? with
    | none => rw [ht] at hx; cases hx
    | some n =>
      rw [ht] at hx
      cases hx
      obtain ⟨cs, _, he, hcell⟩ := hc t n ht
      have he : cs = [.int .i64 n] := he
      subst he
      have := hcell 0 _ rfl
      rwa [Nat.mul_one, Nat.add_zero] at this
theorem open_i64s {fuel : Nat} {v : Value} {x : DataW H × List MemPlace} (h : DataW.trod enc Tryd.prog w base sp hd fuel 34 [v] = some x) : ∃ T : List Int, Reads w v (ints T) ∧ ∀ n ∈ T, -9223372036854775808 ≤ n ∧ n ≤ 9223372036854775807 := by
  obtain ⟨T, hr, hp⟩ := open_rowE intE 1 (fun n => -9223372036854775808 ≤ n ∧ n ≤ 9223372036854775807) Tryd.underlying34 cel_i64Z (by decide) (fun fuel cs x _ h => by
    obtain ⟨a, ha, _, wf⟩ := DataW.trod_int Tryd.underlying2 h
    exact ⟨a, ha, bounds_i64 wf⟩) h
  exact ⟨T, .of_rowE hr, hp⟩
theorem mapM_intsZ {P : Program} {e : TypeId} {q : IntKind} (he : P.underlying e = some (.int q)) {m : Nat} {cs : List Value} {c : Nat} :
    ∀ (L : List Nat) (xs : List (DataW H × List MemPlace)), L.mapM (fun i => DataW.trod enc P w base sp hd m e ((cs.drop (i * c)).take c)) = some xs → ∀ i ∈ L, ∃ a, (cs.drop (i * c)).take c = [.int q a]
  | [], _, _, i, hi => by simp at hi
  | j :: L, xs, h, i, hi => by
    rw [List.mapM_cons] at h
    simp only [bind, Option.bind_eq_some_iff, pure, Option.some.injEq] at h
    obtain ⟨y, hy, ys, hys, rfl⟩ := h
    obtain ⟨a, ea, _, _⟩ := DataW.trod_int he hy
    rcases List.mem_cons.1 hi with rfl | hi
    · exact ⟨a, ea⟩
    · exact mapM_intsZ he L ys hys i hi
theorem open_arr3Z {P : Program} {k e : TypeId} {q : IntKind} (hu : P.underlying k = some (.array 3 e)) (he : P.underlying e = some (.int q)) (hone : P.cellsOf e = 1) (hsz : P.cellsOf k = 3)
    {xs : Array Value} (hn : xs.size = 3) {d : DataW H} {ps : List MemPlace} (hd : DataW.Trod enc P w base sp hd k (.agg xs) d ps) : ∃ a b c, xs = #[.int q a, .int q b, .int q c] := by
  obtain ⟨fuel, hf⟩ := hd
  cases fuel with
  | zero => simp [DataW.trod] at hf
  | succ m =>
    rw [DataW.trod_step] at hf
    unfold DataW.trodStep at hf
    simp only [hu, Value.cells] at hf
    rw [if_pos (by rw [hsz]; simpa using hn)] at hf
    simp only [Option.map_eq_some_iff] at hf
    obtain ⟨ys, hy, _⟩ := hf
    have h := mapM_intsZ he _ ys hy
    obtain ⟨x0, x1, x2, rfl⟩ : ∃ x0 x1 x2, xs = #[x0, x1, x2] := by
      obtain ⟨l⟩ := xs
      match l, hn with
      | [x0, x1, x2], _ => exact ⟨x0, x1, x2, rfl⟩
    obtain ⟨a, ha⟩ := h 0 (by simp)
    obtain ⟨b, hb⟩ := h 1 (by simp)
    obtain ⟨c, hc⟩ := h 2 (by simp)
    rw [hone] at ha hb hc
    simp at ha hb hc
    exact ⟨a, b, c, by rw [ha, hb, hc]⟩
end
end Go.Proofs.YtkkoooagamadjaaDoor

namespace Go.Proofs.YtkkoooagamadjaaDoor.writeTrue
open Go.ChangeShapes Go.WideShapes Go.ChangeAt Go.RowKit
open Go.ChangeMaps (open_string shut_string)

theorem own : ownKnob Tryd.prog.godebug = none := by kernel_rfl
theorem reads (os : Os) {H : Type} (enc : TypeId × Value → H) : ∃ places, DataW.whole enc Tryd.prog ((World.laidAll Tryd.prog os Rows.writeTrueRow.laid).forCall (fun _ _ => 0) ⟨#[], #[.slice none 0 0, .slice none 0 0, .agg #[.int .i64 0, .int .i64 0, .int .i64 0]], []⟩).memory Tryd.f4.params.toList Rows.writeTrueSpec.vars false #[Value.slice none 0 0, Value.slice none 0 0, Value.agg #[.int .i64 0, .int .i64 0, .int .i64 0]].toList 8 = some ([.nil, .nil, .agg [.lit (.int .i64 0), .lit (.int .i64 0), .lit (.int .i64 0)]], [], places) :=
  ⟨[], by kernel_rfl⟩
theorem okIn (os : Os) : Input.okWideB Tryd.prog ((World.laidAll Tryd.prog os Rows.writeTrueRow.laid).forCall (fun _ _ => 0) ⟨#[], #[.slice none 0 0, .slice none 0 0, .agg #[.int .i64 0, .int .i64 0, .int .i64 0]], []⟩) 4 ⟨#[], #[.slice none 0 0, .slice none 0 0, .agg #[.int .i64 0, .int .i64 0, .int .i64 0]], []⟩ = true := by kernel_rfl
theorem laid_met (os : Os) : laidMetH Tryd.prog Rows.writeTrueRow.laid ((World.laidAll Tryd.prog os Rows.writeTrueRow.laid).forCall (fun _ _ => 0) ⟨#[], #[.slice none 0 0, .slice none 0 0, .agg #[.int .i64 0, .int .i64 0, .int .i64 0]], []⟩).memory := by
  rw [MakeChecks.laidMetH_plain _ _ _ (by kernel_rfl)]; exact laidMet_laidAll _ (by kernel_rfl) (by kernel_rfl)

set_option maxRecDepth 100000 in
theorem lifted (os : Os) (started : os.Started) (H : Type) (enc : TypeId × Value → H) (F : Stop.Interp) :
    ReturnsInHanded {} Tryd.checked os 4 .any ((OpenSpec.ofChange Rows.writeTrueSpec).preRow enc Tryd.prog Tryd.f4 Rows.writeTrueRow.domain false Rows.writeTrueRow.laid) (((OpenSpec.ofChange Rows.writeTrueSpec).at F).post enc Tryd.prog Tryd.f4 false true false false) := by
  obtain ⟨places, hx⟩ := reads os enc
  refine returnsInHanded_of_row (C := Tryd.checked) (s := OpenSpec.ofChange Rows.writeTrueSpec) own started (by kernel_rfl) Tryd.func4
    ⟨World.laidAll Tryd.prog os Rows.writeTrueRow.laid, fun _ _ => 0, ⟨#[], #[.slice none 0 0, .slice none 0 0, .agg #[.int .i64 0, .int .i64 0, .int .i64 0]], []⟩, World.laidAll_os _ _ _, World.shaped_of_ZipB (by kernel_rfl) (by kernel_rfl), (Input.okWide_of_okWideB (base := 0) (okIn os)).1, (Input.okWide_of_okWideB (okIn os)).2,
      OpenSpec.preRow_of_cond 8 hx (by kernel_rfl) (fun k hk => by cases hk) (by kernel_rfl) (laid_met os), by
        simp only [Assume.holds]
        exact ⟨by simp, by simp, fun _ => Modest.zero, by simp, by simp⟩⟩ ?_
  intro W base args ds gs before hval0 hW _ _ hsz hlaid hsh _
  have hl1 : laidMet Tryd.prog Rows.writeTrueRow.laid W := by
    rw [MakeChecks.laidMetH_plain _ _ _ (by kernel_rfl)] at hlaid
    exact hlaid
  have HPOW : Lib.TabIs Tryd.prog W "internal/strconv.uint64pow10" .u64 Lib.pow10Tab := (Lib.tabIs_of_head (n := 20) (show Tryd.prog.globalNamed "internal/strconv.uint64pow10" = some 0 by kernel_rfl) (show (Tryd.prog.globals[0]?).map (·.type) = some 111 by kernel_rfl) (show Tryd.prog.underlying 111 = some (.array 20 94) by kernel_rfl) (show Tryd.prog.underlying 94 = some (.int .u64) by kernel_rfl) (by kernel_rfl) (by kernel_rfl)
      (rest := (Rows.writeTrueRow.laid.drop 3)) (show laidMet Tryd.prog (("internal/strconv.uint64pow10", Lib.tabData .u64 Lib.pow10Tab) :: Rows.writeTrueRow.laid.drop 3) W from by rw [show ((("internal/strconv.uint64pow10", Lib.tabData .u64 Lib.pow10Tab) : String × DataW Unit) :: Rows.writeTrueRow.laid.drop 3) = Rows.writeTrueRow.laid.drop 2 by kernel_rfl]; exact hl1.tail.tail))

  have HT : PTab W := HPOW
  have hval : ∀ (j : Nat) t v, Tryd.f4.params[j]? = some t → args[j]? = some v → Value.okWide Tryd.prog W .any base t v := hval0
  have hW' := hW
  obtain ⟨p, q, hA0, hV, rfl, hfz, hnd⟩ := hW
  have hA : DataW.TrodAll enc Tryd.prog W 0 (fun _ => true) true Tryd.f4.params.toList args.toList ds p := hA0
  rw [Tryd.params4] at hA hval hsz
  obtain ⟨v0, vs0, d0, ds0, p0, q0, hargs, rfl, rfl, h0, r0⟩ := trodAll_cons hA
  obtain ⟨v1, vs1, d1, ds1, p1, q1, rfl, rfl, rfl, h1, r1⟩ := trodAll_cons r0
  obtain ⟨v2, vs2, d2, ds2, p2, q2, rfl, rfl, rfl, h2, r2⟩ := trodAll_cons r1
  obtain ⟨rfl, rfl, rfl⟩ := trodAll_nil r2
  obtain rfl : args = #[v0, v1, v2] := by cases args; simp_all
  obtain ⟨rfl, rfl⟩ := trodVars_none hV
  obtain ⟨ad0, len0, cap0, rfl⟩ := okWide_slice Tryd.underlying34 (hval 0 34 v0 rfl rfl)
  have k0 := h0
  have lt0 : ∀ x ∈ p0, x.block < W.heap.size := by obtain ⟨m, hm⟩ := k0; exact DataW.trod_lt m _ _ _ hm
  obtain ⟨T0, R0, N0⟩ := (show ∃ T : List Int, Reads W (.slice ad0 len0 cap0) (ints T) ∧ ∀ n ∈ T, -9223372036854775808 ≤ n ∧ n ≤ 9223372036854775807 by obtain ⟨fuel, hf⟩ := h0; exact open_i64s hf)
  obtain ⟨ad1, len1, cap1, rfl⟩ := okWide_slice Tryd.underlying34 (hval 1 34 v1 rfl rfl)
  have k1 := h1
  have lt1 : ∀ x ∈ p1, x.block < W.heap.size := by obtain ⟨m, hm⟩ := k1; exact DataW.trod_lt m _ _ _ hm
  obtain ⟨T1, R1, N1⟩ := (show ∃ T : List Int, Reads W (.slice ad1 len1 cap1) (ints T) ∧ ∀ n ∈ T, -9223372036854775808 ≤ n ∧ n ≤ 9223372036854775807 by obtain ⟨fuel, hf⟩ := h1; exact open_i64s hf)
  obtain ⟨xs2, rfl, hxs2⟩ : ∃ xs : Array Value, v2 = .agg xs ∧ xs.size = 3 := by
    have hv := hval 2 35 v2 rfl rfl
    simp only [Value.okWide, Tryd.underlying35] at hv
    obtain ⟨cs, e1, e2, _⟩ := hv
    exact ⟨cs, e1, by rw [e2]; kernel_rfl⟩
  have k2 := h2
  have lt2 : ∀ x ∈ p2, x.block < W.heap.size := by obtain ⟨m, hm⟩ := k2; exact DataW.trod_lt m _ _ _ hm
  obtain ⟨xa2, xb2, xc2, rfl⟩ := open_arr3Z Tryd.underlying35 Tryd.underlying3 (by kernel_rfl) (by kernel_rfl) hxs2 h2
  clear hA0 hval0
  simp only [List.append_nil] at hW'
  refine (writeTrue_any _ _ T0 T1 xa2 xb2 xc2 W HT R0 R1).mono fun e W' ⟨he, hg⟩ => ?_
  subst he
  exact ⟨_, rfl, _, _, _, [], _, [], hW', (trodAll_cons_mk (shut_bool Tryd.underlying4 _) trodAll_mk0), (trodAll_cons_mk (Below.trod (by kernel_rfl) (by kernel_rfl) (of_decide_eq_true (by kernel_rfl)) k0 hg lt0) (trodAll_cons_mk (Below.trod (by kernel_rfl) (by kernel_rfl) (of_decide_eq_true (by kernel_rfl)) k1 hg lt1) (trodAll_cons_mk (Below.trod (by kernel_rfl) (by kernel_rfl) (of_decide_eq_true (by kernel_rfl)) k2 hg lt2) trodAll_mk0))), rfl, hg.frame _, fun h => by cases h⟩

theorem said : Rows.WriteTrueSaid :=
  OpenClaim.holds_of_cond 4 Tryd.f4 rfl rfl rfl rfl rfl rfl rfl ⟨rfl, rfl, rfl, rfl, rfl⟩ rfl rfl rfl rfl rfl (by kernel_rfl) Tryd.func4 (by kernel_rfl)
    (of_decide_eq_true (by kernel_rfl)) (by unfold Func.isWrapper; first | (rw [if_pos (by decide +kernel)]; kernel_rfl) | (rw [if_neg (by decide +kernel)]; exact ⟨rfl, rfl⟩))
    (fun os started H enc _ F => by rw [OpenClaim.pre_eq_preRow]; exact lifted os started H enc F)

theorem plain (f : FuncId) (fn : Func) (hf : Tryd.pinned.checked.prog.funcNamed "warder/warderlaw25.WriteTrue" = some f) (hfn : Tryd.pinned.checked.prog.funcs[f]? = some fn) :
    false = Tryd.pinned.checked.prog.looks [] ∧ ∀ (j : Nat) t, fn.params[j]? = some t → Tryd.pinned.checked.prog.wantsStandIn t = false := by
  obtain rfl : f = 4 := Option.some.inj ((show Tryd.prog.funcNamed "warder/warderlaw25.WriteTrue" = some 4 by kernel_rfl).symm.trans hf) |>.symm
  obtain rfl : fn = Tryd.f4 := (Option.some.inj (Tryd.func4.symm.trans hfn)).symm
  refine ⟨by kernel_rfl, fun j t ht => ?_⟩
  rw [Tryd.params4] at ht
  have h3 : t = 34 ∨ t = 35 := by simpa using Array.mem_of_getElem? ht
  rcases h3 with rfl | rfl
  · exact (show Tryd.prog.wantsStandIn 34 = false by kernel_rfl)
  · exact (show Tryd.prog.wantsStandIn 35 = false by kernel_rfl)

/-- THE CARD -/
theorem proved : Rows.WriteTrueCardSaid :=
  Claim7.holds_tied_plain_at .later [] _ _ _ _ said (fun _ h => by cases h) (by kernel_rfl) (fun _ h => by cases h) writeTrue_row_tie rfl ⟨rfl, rfl⟩ (by kernel_rfl) rfl plain (by kernel_rfl)
end Go.Proofs.YtkkoooagamadjaaDoor.writeTrue
