/- The counting of strings in a map that the call made: what each operation does to the block; no condition beyond those stated. Rows of zones, the zones wherever they lie. Same of warderref22, of any two zones, wherever they lie. Same of warderref22: of two zones that are the same, wherever they lie. -/
import Derived.Test.YtkkoooagamadjaaGreatDoorPk01
import Derived.StringKeys
import Derived.WideKeyMaps
import Derived.WideKeyEntry
import Derived.Test.YtkkoooagamadjaaGreatDoorPk22
import Derived.Test.YtkkoooagamadjaaGreatDoorPk26
import Derived.Test.YtkkoooagamadjaaGreatDoorPk18
import Derived.Test.YtkkoooagamadjaaGreatDoorPk16

namespace Go.Proofs.YtkkoooagamadjaaGreatDoor
open Go.RowKit Go.MapKept Go.WideMaps
open Go.ChangeMaps (setBlock heap_setBlock_same heap_setBlock_other frozen?_setBlock)

def cntS (pre : List ByteArray) (p : ByteArray) : Nat := (pre.filter fun q => decide (q = p)).length
theorem cntS_snoc (pre : List ByteArray) (x p : ByteArray) : cntS (pre ++ [x]) p = cntS pre p + if x = p then 1 else 0 := by
  unfold cntS
  rw [List.filter_append, List.length_append]
  by_cases h : x = p <;> simp [h]
theorem cntS_le (pre : List ByteArray) (p : ByteArray) : cntS pre p ≤ pre.length := List.length_filter_le _ _
theorem cntS_zero (pre : List ByteArray) (p : ByteArray) : cntS pre p = 0 ↔ p ∉ pre := by
  unfold cntS
  rw [List.length_eq_zero_iff, List.filter_eq_nil_iff]
  constructor
  · intro h hp; have := h p hp; simp at this
  · intro h q hq hc; simp at hc; subst hc; exact h hq

def strV (p : ByteArray) : Value := .string p
theorem strV_inj {p q : ByteArray} (h : strV p = strV q) : p = q := by
  unfold strV at h; simpa using h
def okS (p : ByteArray) : Prop := p.size ≤ maxLen

theorem strLaw : KeyLaw Tryz.prog 9 := string_law Tryz.underlying9
theorem keyOf_strV {p : ByteArray} (h : okS p) : ∃ l, keyOf Tryz.prog 9 (strV p) = some l := ⟨_, keyOf_string_mk Tryz.underlying9 h⟩

/-- the entries count what came -/
structure SeenS (es : Array MapEntry) (clock : Nat) (pre : List ByteArray) : Prop where
  stamped : Stamped es clock
  vals : ∀ e ∈ es.toList, ∃ p, p ∈ pre ∧ e.key = strV p ∧ e.val = .int .i64 (cntS pre p)
  has : ∀ p ∈ pre, ∃ e ∈ es.toList, e.key = strV p
  ok : ∀ p ∈ pre, okS p

section
variable {es : Array MapEntry} {clock b : Nat}

theorem findS_none {p : ByteArray} (hp : okS p) (hk : ∀ e ∈ es.toList, ∃ q, okS q ∧ e.key = strV q) (h : ∀ e ∈ es.toList, e.key ≠ strV p) (w : World) : (Instr.findKey 9 (strV p) es.toList).run Tryz.prog w = .ok none w := by
  obtain ⟨l, hl⟩ := keyOf_strV hp
  rcases strLaw.find w hl es.toList (fun e he => by obtain ⟨q, hq, e1⟩ := hk e he; rw [e1]; exact keyOf_strV hq) with ⟨h1, _⟩ | ⟨j, e, _, h2, h3⟩
  · exact h1
  · exact absurd h3 (h e (List.mem_of_getElem? h2))

theorem findS_some {p : ByteArray} (hp : okS p) (hk : ∀ e ∈ es.toList, ∃ q, okS q ∧ e.key = strV q) (hn : (es.toList.map (·.key)).Nodup) {j : Nat} {e0 : MapEntry} (hj : es.toList[j]? = some e0) (h0 : e0.key = strV p) (w : World) :
    (Instr.findKey 9 (strV p) es.toList).run Tryz.prog w = .ok (some (j, e0.val)) w := by
  obtain ⟨l, hl⟩ := keyOf_strV hp
  rcases strLaw.find w hl es.toList (fun e he => by obtain ⟨q, hq, e1⟩ := hk e he; rw [e1]; exact keyOf_strV hq) with ⟨_, h2⟩ | ⟨i, e, h1, h2, h3⟩
  · exact absurd h0 (h2 e0 (List.mem_of_getElem? hj))
  · have hi : i < (es.toList.map (·.key)).length := by rw [List.length_map]; exact (List.getElem?_eq_some_iff.1 h2).1
    have : i = j := (List.getElem?_inj hi hn).1 (by rw [List.getElem?_map, List.getElem?_map, h2, hj]; simp [h3, h0])
    subst this
    rw [h2] at hj; cases hj
    exact h1

theorem lookS_run {p : ByteArray} (hp : okS p) (w : World) (hb : w.heap[b]? = some (.map es clock)) {r : Option (Nat × Value)} (hf : ∀ w, (Instr.findKey 9 (strV p) es.toList).run Tryz.prog w = .ok r w) :
    (Instr.lookup 81 (.map (some b)) (strV p) false).run Tryz.prog w = .ok (match r with | some (_, v) => v | none => .int .i64 0) w := by
  obtain ⟨l, hl⟩ := keyOf_strV hp
  have hz : (zeroValue 3).run Tryz.prog w = .ok (.int .i64 0) w := Tryz.zeroValue3 _
  cases r with
  | none => simp [Instr.lookup, run_underlying Tryz.underlying81, MapKept.run_getObj_map hb, strLaw.check w _ hl, hf, hz, Result.andThen]
  | some x => simp [Instr.lookup, run_underlying Tryz.underlying81, MapKept.run_getObj_map hb, strLaw.check w _ hl, hf, Result.andThen]

theorem seenS_step {pre : List ByteArray} (hS : SeenS es clock pre) {x : ByteArray} (hx : okS x) :
    ∃ (es2 : Array MapEntry) (clock2 : Nat),
      (∀ w : World, w.heap[b]? = some (.map es clock) → (Instr.lookup 81 (.map (some b)) (.string x) false).run Tryz.prog w = .ok (.int .i64 (cntS pre x)) w) ∧
      (∀ w : World, w.heap[b]? = some (.map es clock) → (Instr.mapUpdate 81 (.map (some b)) (.string x) (.int .i64 ((cntS pre x : Nat) + 1 : Int))).run Tryz.prog w = .ok () (setBlock w b (.map es2 clock2))) ∧
      (∀ w : World, w.heap[b]? = some (.map es2 clock2) → (Instr.lookup 81 (.map (some b)) (.string x) false).run Tryz.prog w = .ok (.int .i64 ((cntS pre x : Nat) + 1 : Int)) w) ∧
      SeenS es2 clock2 (pre ++ [x]) := by
  obtain ⟨l, hl⟩ := keyOf_strV hx
  obtain ⟨s1, s2, s3⟩ := hS.stamped
  have hk : ∀ e ∈ es.toList, ∃ q, okS q ∧ e.key = strV q := fun e he => by obtain ⟨p, hp, h1, _⟩ := hS.vals e he; exact ⟨p, hS.ok p hp, h1⟩
  have ht := Tryz.underlying81
  have hok2 : ∀ p ∈ pre ++ [x], okS p := fun p hp => by
    rcases List.mem_append.1 hp with h | h
    · exact hS.ok p h
    · simp at h; subst h; exact hx
  by_cases hin : x ∈ pre
  · obtain ⟨e0, he0, hk0⟩ := hS.has x hin
    obtain ⟨j, hj⟩ := List.mem_iff_getElem?.1 he0
    have hv0 : e0.val = .int .i64 (cntS pre x) := by
      obtain ⟨p, _, h1, h2⟩ := hS.vals e0 he0
      rw [strV_inj (h1.symm.trans hk0)] at h2; exact h2
    have hf := findS_some hx hk s3 hj hk0
    have hj' : es[j]? = some e0 := by simpa using hj
    have hlook : ∀ w : World, w.heap[b]? = some (.map es clock) → (Instr.lookup 81 (.map (some b)) (strV x) false).run Tryz.prog w = .ok (.int .i64 (cntS pre x)) w := fun w hb => by
      rw [lookS_run hx w hb hf]; simp [hv0]
    have hl2 : (es.modify j fun e => { e with key := strV x, val := .int .i64 ((cntS pre x : Nat) + 1 : Int) }).toList = es.toList.set j { e0 with key := strV x, val := .int .i64 ((cntS pre x : Nat) + 1 : Int) } := by
      rw [Array.toList_modify, ChangeMaps.modify_eq_set _ _ _ _ hj]
    have hst2 : Stamped (es.modify j fun e => { e with key := strV x, val := .int .i64 ((cntS pre x : Nat) + 1 : Int) }) clock := stamped_modify ⟨s1, s2, s3⟩ j _ (fun _ _ => rfl) (fun e' _ he' => by rw [hj'] at he'; cases he'; exact hk0.symm)
    have hlt : j < es.toList.length := (List.getElem?_eq_some_iff.1 hj).1
    have hS2 : SeenS (es.modify j fun e => { e with key := strV x, val := .int .i64 ((cntS pre x : Nat) + 1 : Int) }) clock (pre ++ [x]) := by
      refine ⟨hst2, fun e he => ?_, fun p hp => ?_, hok2⟩
      · rw [hl2] at he
        obtain ⟨i, hi⟩ := List.mem_iff_getElem?.1 he
        rw [List.getElem?_set] at hi
        by_cases hij : j = i
        · subst hij
          rw [if_pos rfl, if_pos hlt] at hi
          cases hi
          exact ⟨x, by simp, rfl, int_eq (by rw [cntS_snoc, if_pos rfl]; omega)⟩
        · rw [if_neg hij] at hi
          obtain ⟨p, hp, h1, h2⟩ := hS.vals e (List.mem_of_getElem? hi)
          have hne : x ≠ p := fun e1 => hij (by
            subst e1
            have hjl : j < (es.toList.map (·.key)).length := by rw [List.length_map]; exact hlt
            exact (List.getElem?_inj hjl s3).1 (by rw [List.getElem?_map, List.getElem?_map, hj, hi]; simp [hk0, h1]))
          exact ⟨p, by simp [hp], h1, by rw [cntS_snoc, if_neg hne, Nat.add_zero]; exact h2⟩
      · have hp' : p ∈ pre := by
          rcases List.mem_append.1 hp with h | h
          · exact h
          · simp at h; subst h; exact hin
        obtain ⟨e, he, h1⟩ := hS.has p hp'
        obtain ⟨i, hi⟩ := List.mem_iff_getElem?.1 he
        by_cases hij : j = i
        · subst hij
          rw [hj] at hi; cases hi
          exact ⟨{ e0 with key := strV x, val := .int .i64 ((cntS pre x : Nat) + 1 : Int) }, by rw [hl2]; exact List.mem_of_getElem? (i := j) (by rw [List.getElem?_set, if_pos rfl, if_pos hlt]), by rw [← h1]; exact hk0.symm⟩
        · exact ⟨e, by rw [hl2]; exact List.mem_of_getElem? (i := i) (by rw [List.getElem?_set, if_neg hij]; exact hi), h1⟩
    refine ⟨_, clock, hlook, fun w hb => ?_, fun w hb => ?_, hS2⟩
    · show (Instr.mapUpdate 81 (.map (some b)) (strV x) (.int .i64 ((cntS pre x : Nat) + 1 : Int))).run Tryz.prog w = _
      simp [Instr.mapUpdate, run_underlying ht, MapKept.run_getObj_map hb, strLaw.check w false hl, hf, hj', hk0, strLaw.stays w hl, MapKept.run_setObj_map _ hb, Result.andThen, setBlock]
    · have hk2 : ∀ e ∈ (es.modify j fun e => { e with key := strV x, val := .int .i64 ((cntS pre x : Nat) + 1 : Int) }).toList, ∃ q, okS q ∧ e.key = strV q := fun e he => by
        obtain ⟨p, hp, h1, _⟩ := hS2.vals e he; exact ⟨p, hok2 p hp, h1⟩
      have hf2 := findS_some (j := j) (e0 := { e0 with key := strV x, val := .int .i64 ((cntS pre x : Nat) + 1 : Int) }) hx hk2 hst2.2.2 (by rw [hl2, List.getElem?_set, if_pos rfl, if_pos hlt]) rfl
      show (Instr.lookup 81 (.map (some b)) (strV x) false).run Tryz.prog w = _
      rw [lookS_run hx w hb hf2]
  · have hno : ∀ e ∈ es.toList, e.key ≠ strV x := fun e he hc => by
      obtain ⟨p, hp, h1, _⟩ := hS.vals e he
      rw [strV_inj (hc.symm.trans h1)] at hin
      exact hin hp
    have hf := findS_none hx hk hno
    have hc0 : cntS pre x = 0 := (cntS_zero _ _).2 hin
    have hvals1 : ∀ v : Value, ∀ e ∈ (es.push ⟨strV x, v, clock⟩).toList, ∃ q, okS q ∧ e.key = strV q := fun v e he => by
      rw [Array.toList_push] at he
      rcases List.mem_append.1 he with h | h
      · exact hk e h
      · simp at h; subst h; exact ⟨x, hx, rfl⟩
    have hst1 : ∀ v : Value, Stamped (es.push ⟨strV x, v, clock⟩) (clock + 1) := fun v => stamped_push ⟨s1, s2, s3⟩ hno
    have hlast : ∀ v : Value, (es.push ⟨strV x, v, clock⟩).toList[es.size]? = some ⟨strV x, v, clock⟩ := fun v => by simp
    have hf1 : ∀ (v : Value) (w : World), (Instr.findKey 9 (strV x) (es.push ⟨strV x, v, clock⟩).toList).run Tryz.prog w = .ok (some (es.size, v)) w := fun v w => findS_some hx (hvals1 v) (hst1 v).2.2 (hlast v) rfl w
    have hS2 : SeenS (es.push ⟨strV x, .int .i64 ((cntS pre x : Nat) + 1 : Int), clock⟩) (clock + 1) (pre ++ [x]) := by
      refine ⟨hst1 _, fun e he => ?_, fun p hp => ?_, hok2⟩
      · rw [Array.toList_push] at he
        rcases List.mem_append.1 he with h | h
        · obtain ⟨p, hp, h1, h2⟩ := hS.vals e h
          have hne : x ≠ p := fun e1 => hin (e1 ▸ hp)
          exact ⟨p, by simp [hp], h1, by rw [cntS_snoc, if_neg hne, Nat.add_zero]; exact h2⟩
        · simp at h; subst h
          exact ⟨x, by simp, rfl, int_eq (by rw [cntS_snoc, if_pos rfl]; omega)⟩
      · rw [Array.toList_push]
        rcases List.mem_append.1 hp with h | h
        · obtain ⟨e, he, h1⟩ := hS.has p h
          exact ⟨e, List.mem_append.2 (.inl he), h1⟩
        · simp at h; subst h
          exact ⟨_, List.mem_append.2 (.inr (List.mem_singleton.2 rfl)), rfl⟩
    refine ⟨_, clock + 1, fun w hb => ?_, fun w hb => ?_, fun w hb => ?_, hS2⟩
    · show (Instr.lookup 81 (.map (some b)) (strV x) false).run Tryz.prog w = _
      rw [lookS_run hx w hb hf, hc0]; rfl
    · show (Instr.mapUpdate 81 (.map (some b)) (strV x) (.int .i64 ((cntS pre x : Nat) + 1 : Int))).run Tryz.prog w = _
      simp [Instr.mapUpdate, run_underlying ht, MapKept.run_getObj_map hb, strLaw.check w false hl, hf, MapKept.run_setObj_map _ hb, Result.andThen, setBlock]
    · show (Instr.lookup 81 (.map (some b)) (strV x) false).run Tryz.prog w = _
      rw [lookS_run hx w hb (hf1 _)]
theorem SeenS.nil (clock : Nat) : SeenS #[] clock [] := ⟨stamped_empty clock, fun e he => (by simp at he), fun p hp => (by cases hp), fun p hp => (by cases hp)⟩

end

end Go.Proofs.YtkkoooagamadjaaGreatDoor

namespace Go.Proofs.YtkkoooagamadjaaGreatDoor
open Go.RowKit

/-- a slice no longer than what it may hold -/
def CapV (v : Value) : Prop := ∀ ad n cap, v = .slice ad n cap → n ≤ cap
theorem CapV.of_owns {w : World} {base sz n : Nat} {e : TypeId} {v : Value} {xs : List Value} (h : w.ownsRow base e sz v n xs) : CapV v := by
  intro ad m cap hv
  rcases h.2 with ⟨rfl, h0⟩ | ⟨g, cap', cur, rfl, _, _, hn, _⟩
  · cases hv; exact Nat.le_refl _
  · cases hv; exact hn
/-- a zone, its classes and gaps no more than they may hold -/
def ZoneCi (w : World) (v1 v2 : Value) (cl : List (Int × Int)) (gl : List Int) : Prop := ZoneIn w v1 v2 cl gl ∧ CapV v1 ∧ CapV v2
theorem ZoneCi.below {w w' : World} {v1 v2 : Value} {cl : List (Int × Int)} {gl : List Int} (h : ZoneCi w v1 v2 cl gl) (hb : Below w.heap.size w w') : ZoneCi w' v1 v2 cl gl := ⟨h.1.below hb, h.2⟩
theorem ZoneCi.of_at {w : World} {base : Nat} {v1 v2 : Value} {cl : List (Int × Int)} {gl : List Int} (h : ZoneAt w base v1 v2 cl gl) : ZoneCi w v1 v2 cl gl := ⟨.of_at h, .of_owns h.1, .of_owns h.2⟩

/-- a row of zones, wherever it and they lie -/
def ZIs (W : World) (v : Value) (zs : List Zn) : Prop :=
  ∃ ps : List (Value × Value), ps.length = zs.length ∧ RdK W 2 v zs.length (zcells ps) ∧ ∀ (i : Nat) p z, ps[i]? = some p → zs[i]? = some z → ZoneCi W p.1 p.2 z.1 z.2
/-- one in memory of its own (of the world W), its zones as they lay in w -/
def ZOf (w W : World) (v : Value) (zs : List Zn) : Prop :=
  ∃ ps : List (Value × Value), ps.length = zs.length ∧ W.ownsRow w.heap.size 28 2 v zs.length (zcells ps) ∧ ∀ (i : Nat) p z, ps[i]? = some p → zs[i]? = some z → ZoneCi w p.1 p.2 z.1 z.2
theorem ZIs.below {W W' : World} {v : Value} {zs : List Zn} (h : ZIs W v zs) (hb : Below W.heap.size W W') : ZIs W' v zs := by
  obtain ⟨ps, hl, hr, hz⟩ := h
  exact ⟨ps, hl, hr.below hb, fun i p z h1 h2 => (hz i p z h1 h2).below hb⟩
theorem ZIs.len {W : World} {v : Value} {zs : List Zn} (h : ZIs W v zs) : ∃ ad cap, v = .slice ad zs.length cap := by
  obtain ⟨ps, hl, hr, hz⟩ := h; exact hr.len
theorem ZOf.len {w W : World} {v : Value} {zs : List Zn} (h : ZOf w W v zs) : ∃ ad cap, v = .slice ad zs.length cap := by
  obtain ⟨ps, hl, hr, hz⟩ := h; exact owns_len hr
theorem ZOf.nil (w W : World) : ZOf w W (.slice none 0 0) [] := ⟨[], rfl, World.ownsRow_nil _ _ _ _, fun i p z h => by simp at h⟩
theorem ZOf.zis {w W : World} {v : Value} {zs : List Zn} (h : ZOf w W v zs) (hb : Below w.heap.size w W) : ZIs W v zs := by
  obtain ⟨ps, hl, hr, hz⟩ := h
  exact ⟨ps, hl, .of_owns hr, fun i p z h1 h2 => (hz i p z h1 h2).below hb⟩
theorem ZOf.below {w W W' : World} {v : Value} {zs : List Zn} (h : ZOf w W v zs) (hb : Below W.heap.size W W') : ZOf w W' v zs := by
  obtain ⟨ps, hl, hr, hz⟩ := h
  exact ⟨ps, hl, owns_below hr hb, hz⟩
theorem ZonesAt.zis {W : World} {base : Nat} {v : Value} {zs : List Zn} (h : ZonesAt W base v zs) : ZIs W v zs := by
  obtain ⟨ps, hl, hr, hz⟩ := h
  exact ⟨ps, hl, .of_owns hr, fun i p z h1 h2 => .of_at (hz i p z h1 h2)⟩
theorem ZIs.at {W : World} {n cap : Nat} {ad : Option Addr} {zs : List Zn} (h : ZIs W (.slice ad n cap) zs) {k : Nat} {z : Zn} (hk : zs[k]? = some z) :
    ∃ g off c1 c2, ad = some ⟨g, off, none⟩ ∧ n = zs.length ∧ g < W.heap.size ∧ W.cell? ⟨g, off + k * 2, none⟩ = some c1 ∧ W.cell? ⟨g, off + k * 2 + 1, none⟩ = some c2 ∧ ZoneCi W c1 c2 z.1 z.2 := by
  obtain ⟨ps, hl, hr, hz⟩ := h
  have hkl := (List.getElem?_eq_some_iff.1 hk).1
  obtain ⟨p, hp⟩ : ∃ p, ps[k]? = some p := ⟨_, List.getElem?_eq_getElem (by omega)⟩
  obtain ⟨ad', cap', e⟩ := hr.len
  simp only [Value.slice.injEq] at e
  obtain ⟨rfl, rfl, rfl⟩ := e
  obtain ⟨b, off, rfl, hb, hc⟩ := hr.at (by omega)
  obtain ⟨c1, c2⟩ := zcells_get ps k p hp
  exact ⟨b, off, p.1, p.2, rfl, rfl, hb, hc _ _ c1, by rw [Nat.add_assoc]; exact hc _ _ c2, hz k p z hp hk⟩

theorem zi_one {W : World} {c1 c2 : Value} {z : Zn} (h : ZoneIn W c1 c2 z.1 z.2) : c1.oneCell' = true ∧ c2.oneCell' = true := by
  obtain ⟨a, b, rfl⟩ := h.1.len
  obtain ⟨a', b', rfl⟩ := h.2.len
  exact ⟨rfl, rfl⟩

/-- a zone more -/
theorem ZOf.app {w W : World} {v c1 c2 : Value} {zs : List Zn} {z : Zn} (h : ZOf w W v zs) (hz : ZoneCi w c1 c2 z.1 z.2) (hb : Below w.heap.size w W) (hl : zs.length ≤ 100000) (ty : TypeId) :
    ∃ ad cap w', (Builtin.append_ #[30, 30] ty #[v, .slice (some ⟨W.heap.size, 0, none⟩) 1 1]).run Tryz.prog (W.alloc (.cells #[c1, c2] 28)) = .ok (.slice ad (zs.length + 1) cap) w' ∧ ZOf w w' (.slice ad (zs.length + 1) cap) (zs ++ [z]) ∧
      (W.alloc (.cells #[c1, c2] 28)).grownBy w' v.ownBlock ∧ Below w.heap.size w w' ∧ ∀ (k : Nat) (es : Array MapEntry) (ck : Nat), W.heap[k]? = some (.map es ck) → w'.heap[k]? = some (.map es ck) := by
  have hba : Below W.heap.size W (W.alloc (.cells #[c1, c2] 28)) := (Below.refl _ W).alloc (Nat.le_refl _) _
  obtain ⟨ps, hpl, hr0, hzz⟩ := h
  have hr := owns_below hr0 hba
  obtain ⟨o1, o2⟩ := zi_one hz.1
  have hrd : RdK (W.alloc (.cells #[c1, c2] 28)) 2 (.slice (some ⟨W.heap.size, 0, none⟩) 1 1) 1 [c1, c2] := by
    refine ⟨_, _, rfl, rfl, .inr ⟨W.heap.size, 0, rfl, by simp, fun t x hx => ?_⟩⟩
    rw [World.cell?_alloc_at _ _ _ _ (by simp)]
    simpa using hx
  obtain ⟨v', w', hrun, ho, hg⟩ := appK_run (P := Tryz.prog) _ 30 ty 28 (.agg #[.slice none 0 0, .slice none 0 0]) 2 48 w.heap.size Tryz.underlying30 info_zone rfl (by decide) (by decide) v zs.length (zcells ps) hr _ 1 [c1, c2] hrd (by simp [o1, o2]) (by omega) (Nat.le_trans hb.size hba.size)
  obtain ⟨ad, cap, hv⟩ := owns_len ho
  subst hv
  refine ⟨ad, cap, w', hrun, ⟨ps ++ [(c1, c2)], by simp [hpl], ?_, ?_⟩, hg, ?_, fun k es ck hk => ?_⟩
  · rw [zcells_snoc, List.length_append]; exact ho
  · intro i p y h1 h2
    by_cases hi : i < zs.length
    · rw [List.getElem?_append_left (by omega)] at h1 h2
      exact hzz i p y h1 h2
    · have h3 := (List.getElem?_eq_some_iff.1 h2).1
      rw [List.length_append] at h3
      simp only [List.length_cons, List.length_nil] at h3
      have e : i = zs.length := by omega
      subst e
      rw [List.getElem?_append_right (by omega)] at h1 h2
      simp only [hpl, Nat.sub_self, List.getElem?_cons_zero, Option.some.injEq] at h1 h2
      subst h1; subst h2
      exact hz
  · exact (hb.trans (hba.mono hb.size)).grown hg (Nat.le_trans hb.size hba.size) (fun k hk => (hr.lt k hk).1)
  · have hkl : k < W.heap.size := (Array.getElem?_eq_some_iff.1 hk).1
    have e1 : (W.alloc (.cells #[c1, c2] 28)).heap[k]? = some (.map es ck) := (hba.block k hkl).trans hk
    refine (hg.block k (Nat.lt_of_lt_of_le hkl hba.size) fun e => ?_).trans e1
    rcases hr0.2 with ⟨rfl, _⟩ | ⟨g, cap', cur, rfl, _, hgg, _⟩
    · simp [Value.ownBlock] at e
    · have e2 : k = g := by simpa [Value.ownBlock] using e
      subst e2
      rw [hgg] at hk; cases hk

end Go.Proofs.YtkkoooagamadjaaGreatDoor

namespace Go.Proofs.YtkkoooagamadjaaGreatDoor
open Go.RowKit

set_option maxRecDepth 100000 in
set_option maxHeartbeats 4000000 in
/-- Same -/
theorem zsameNI_any (v1 v2 u1 u2 : Value) (cl dl : List (Int × Int)) (gl fl : List Int) (w : World) (h1 : ZoneIn w v1 v2 cl gl) (h2 : ZoneIn w u1 u2 dl fl) (hcl : cl.length ≤ 65536) (hgl : gl.length ≤ 65536) (hdl : dl.length ≤ 65536) (hfl : fl.length ≤ 65536) :
    Calls Tryz.prog 16 #[.agg #[v1, v2], .agg #[u1, u2]] w fun e w' => e = .returned (.bool (decide ((cl, gl) = (dl, fl)))) ∧ Below w.heap.size w w' := by
  have x2 := (Box2.new w v1 v2).alloc (.cells #[u1, u2] 28)
  have x3 := Box2.new (w.alloc (.cells #[v1, v2] 28)) u1 u2
  simp only [World.size_alloc] at x3
  have hb0 : Below w.heap.size w ((w.alloc (.cells #[v1, v2] 28)).alloc (.cells #[u1, u2] 28)) := ((Below.refl _ w).alloc (Nat.le_refl _) _).alloc (by simp) _
  have hs0 : ((w.alloc (.cells #[v1, v2] 28)).alloc (.cells #[u1, u2] 28)).heap.size = w.heap.size + 2 := by simp
  have z1 := h1.below hb0
  have z2 := h2.below hb0
  obtain ⟨a1, k1, e1⟩ := h1.1.len
  obtain ⟨a2, k2, e2⟩ := h1.2.len
  obtain ⟨a3, k3, e3⟩ := h2.1.len
  obtain ⟨a4, k4, e4⟩ := h2.2.len
  obtain ⟨n, hn⟩ : ∃ n, cl.length = n := ⟨_, rfl⟩
  obtain ⟨m, hm⟩ : ∃ m, gl.length = m := ⟨_, rfl⟩
  obtain ⟨n', hn'⟩ : ∃ n, dl.length = n := ⟨_, rfl⟩
  obtain ⟨m', hm'⟩ : ∃ m, fl.length = m := ⟨_, rfl⟩
  obtain ⟨ans, ha⟩ : ∃ ans, decide ((cl, gl) = (dl, fl)) = ans := ⟨_, rfl⟩
  rw [ha]
  have HA := Lib.hid ha
  have HN := Lib.hid hn; have HM := Lib.hid hm; have HN' := Lib.hid hn'; have HM' := Lib.hid hm'
  rw [hn] at e1 hcl; rw [hm] at e2 hgl; rw [hn'] at e3 hdl; rw [hm'] at e4 hfl
  subst e1; subst e2; subst e3; subst e4
  have X2 := Lib.hid x2; have X3 := Lib.hid x3; have Z1 := Lib.hid z1; have Z2 := Lib.hid z2; have HB0 := Lib.hid hb0
  clear x2 x3 z1 z2 hb0 h1 h2 hn hm hn' hm' ha
  by_cases hnn : n = n'
  rotate_left
  · have hnz : ¬ (n : Int) = (n' : Int) := by omega
    obtain rfl : ans = false := by
      rw [← HA.out]
      refine decide_eq_false fun e => hnn ?_
      rw [← HN.out, ← HN'.out, (Prod.mk.inj e).1]
    clear hnn
    go_enter Tryz.func16, Tryz.ntmps16
    go_wp2
    go_ret
    exact ⟨rfl, HB0.out⟩
  subst hnn
  by_cases hmm : m = m'
  rotate_left
  · have hnz : ¬ (m : Int) = (m' : Int) := by omega
    obtain rfl : ans = false := by
      rw [← HA.out]
      refine decide_eq_false fun e => hmm ?_
      rw [← HM.out, ← HM'.out, (Prod.mk.inj e).2]
    clear hmm
    go_enter Tryz.func16, Tryz.ntmps16
    go_wp2
    go_ret
    exact ⟨rfl, HB0.out⟩
  subst hmm
  go_enter Tryz.func16, Tryz.ntmps16
  go_wp2
  obtain ⟨W0, hW0⟩ : ∃ W0, ((w.alloc (.cells #[.slice a1 n k1, .slice a2 m k2] 28)).alloc (.cells #[.slice a3 n k3, .slice a4 m k4] 28)) = W0 := ⟨_, rfl⟩
  rw [hW0] at X2 X3 Z1 Z2 HB0 hs0 ⊢
  clear hW0
  go_loopw [5] (fun i wr => ∃ k : Nat, i = .int .i64 k ∧ k ≤ n ∧ Hid (Below W0.heap.size W0 wr) ∧ Hid (∀ j, j < k → cl[j]? = dl[j]?)) (fun i _ => n - (intOf i).toNat)
  case atStart => exact ⟨0, rfl, Nat.zero_le _, Below.refl _ _, fun j h => by omega⟩
  case round =>
    obtain ⟨k, rfl, hk, hb, HE⟩ := hrel
    have x2 : Box2 wr w.heap.size _ _ := (hb.out.block _ X2.out.lt).trans X2.out
    have x3 : Box2 wr (w.heap.size + 1) _ _ := (hb.out.block _ X3.out.lt).trans X3.out
    have c20 := x2.c0; have c21 := x2.c1; have c30 := x3.c0; have c31 := x3.c1
    by_cases hlt : k < n
    · have p1 : (k : Int) < (n : Int) := by omega
      have hkl : k < cl.length := by rw [HN.out]; exact hlt
      obtain ⟨x, hx⟩ : ∃ x, cl[k]? = some x := ⟨_, List.getElem?_eq_getElem hkl⟩
      obtain ⟨y, hy⟩ : ∃ y, dl[k]? = some y := ⟨_, List.getElem?_eq_getElem (by rw [HN'.out]; exact hlt)⟩
      have y1 := Z1.out.1.below hb.out; have y2 := Z2.out.1.below hb.out
      rw [HN.out] at y1; rw [HN'.out] at y2
      obtain ⟨xa, xb⟩ := x
      obtain ⟨ya, yb⟩ := y
      obtain ⟨g, o, t1, _, d1, d2⟩ := y1.cls hx (by omega)
      obtain ⟨g', o', t2, _, d3, d4⟩ := y2.cls hy (by omega)
      cases t1; cases t2
      by_cases hxy : (xa, xb) = (ya, yb)
      · obtain ⟨rfl, rfl⟩ := Prod.mk.inj hxy
        have HE2 : Hid (∀ j, j < k + 1 → cl[j]? = dl[j]?) := Lib.hid fun j h => by
          by_cases hjk : j < k
          · exact HE.out j hjk
          · obtain rfl : j = k := by omega
            rw [hx, hy]
        clear hx hy x2 x3 y1 y2 hxy HE
        go_wp2
        go_quiet (fail)
        go_wp2
        go_roundw
        case rel => exact ⟨k + 1, by go_num, by omega, Lib.hid (below_drewN hb.out _), HE2⟩
        case measure => simp [intOf]; omega
      · obtain rfl : ans = false := by
          rw [← HA.out]
          refine decide_eq_false fun e => ?_
          exact list_ne_of_get k _ _ hx hy hxy (Prod.mk.inj e).1
        have HF := Lib.hid (HB0.out.trans (hb.out.mono HB0.out.size))
        by_cases hA : xa = ya
        · subst hA
          have hB : ¬ xb = yb := fun h => hxy (by rw [h])
          clear hx hy x2 x3 y1 y2 hxy HE
          go_wp2
          go_quiet (fail)
          go_wp2
          go_ret
          exact ⟨rfl, below_drewN HF.out _⟩
        · clear hx hy x2 x3 y1 y2 hxy HE
          go_wp2
          go_quiet (fail)
          go_wp2
          go_ret
          exact ⟨rfl, below_drewN HF.out _⟩
    · obtain rfl : k = n := by omega
      clear x2 x3 hlt
      go_wp2
      obtain ⟨W1, rfl⟩ : ∃ W1, W1 = wr := ⟨_, rfl⟩
      go_loopw [6] (fun i wr => ∃ j : Nat, i = .int .i64 j ∧ j ≤ m ∧ Hid (Below W0.heap.size W0 wr) ∧ Hid (∀ i, i < j → gl[i]? = fl[i]?)) (fun i _ => m - (intOf i).toNat)
      case atStart => exact ⟨0, rfl, Nat.zero_le _, hb, fun j h => by omega⟩
      case round =>
        clear c20 c21 c30 c31 hb
        obtain ⟨j, rfl, hj, hb, HG⟩ := hrel
        have x2 : Box2 wr w.heap.size _ _ := (hb.out.block _ X2.out.lt).trans X2.out
        have x3 : Box2 wr (w.heap.size + 1) _ _ := (hb.out.block _ X3.out.lt).trans X3.out
        have c20 := x2.c0; have c21 := x2.c1; have c30 := x3.c0; have c31 := x3.c1
        by_cases hlt : j < m
        · have p1 : (j : Int) < (m : Int) := by omega
          have hkl : j < gl.length := by rw [HM.out]; exact hlt
          obtain ⟨x, hx⟩ : ∃ x, gl[j]? = some x := ⟨_, List.getElem?_eq_getElem hkl⟩
          have cx : (ints gl)[j]? = some (.int .i64 x) := by simp [ints, hx]
          obtain ⟨y, hy⟩ : ∃ y, fl[j]? = some y := ⟨_, List.getElem?_eq_getElem (by rw [HM'.out]; exact hlt)⟩
          have cy : (ints fl)[j]? = some (.int .i64 y) := by simp [ints, hy]
          have y1 := Z1.out.2.below hb.out; have y2 := Z2.out.2.below hb.out
          rw [HM.out] at y1; rw [HM'.out] at y2
          obtain ⟨g, o, t1, _, hc1⟩ := y1.at (by omega)
          obtain ⟨g', o', t2, _, hc2⟩ := y2.at (by omega)
          cases t1; cases t2
          have d1 := hc1 _ _ cx
          have d3 := hc2 _ _ cy
          by_cases hxy : x = y
          · subst hxy
            have HG2 : Hid (∀ i, i < j + 1 → gl[i]? = fl[i]?) := Lib.hid fun i h => by
              by_cases hij : i < j
              · exact HG.out i hij
              · obtain rfl : i = j := by omega
                rw [hx, hy]
            clear cx cy hx hy x2 x3 y1 y2 HG hc1 hc2
            go_wp2
            go_quiet (fail)
            go_wp2
            go_roundw
            case rel => exact ⟨j + 1, by go_num, by omega, Lib.hid (below_drewN hb.out _), HG2⟩
            case measure => simp [intOf]; omega
          · obtain rfl : ans = false := by
              rw [← HA.out]
              refine decide_eq_false fun e => ?_
              exact list_ne_of_get j _ _ hx hy hxy (Prod.mk.inj e).2
            have HF := Lib.hid (HB0.out.trans (hb.out.mono HB0.out.size))
            clear cx cy hx hy x2 x3 y1 y2 HG hc1 hc2
            go_wp2
            go_quiet (fail)
            go_wp2
            go_ret
            exact ⟨rfl, below_drewN HF.out _⟩
        · obtain rfl : j = m := by omega
          have HF := Lib.hid (HB0.out.trans (hb.out.mono HB0.out.size))
          obtain rfl : ans = true := by
            rw [← HA.out]
            refine decide_eq_true ?_
            rw [list_eq_of_get k HN.out HN'.out HE.out, list_eq_of_get j HM.out HM'.out HG.out]
          clear x2 x3 hlt
          go_wp2
          go_ret
          exact ⟨rfl, HF.out⟩

end Go.Proofs.YtkkoooagamadjaaGreatDoor

namespace Go.Proofs.YtkkoooagamadjaaGreatDoor
open Go.RowKit

set_option maxRecDepth 100000 in
set_option maxHeartbeats 2000000 in
/-- Same, where both are the same -/
theorem zsameI_eq (v1 v2 u1 u2 : Value) (cl : List (Int × Int)) (gl : List Int) (w : World) (h1 : ZoneIn w v1 v2 cl gl) (h2 : ZoneIn w u1 u2 cl gl) (hcl : cl.length ≤ 65536) (hgl : gl.length ≤ 65536) :
    Calls Tryz.prog 16 #[.agg #[v1, v2], .agg #[u1, u2]] w fun e w' => e = .returned (.bool true) ∧ Below w.heap.size w w' := by
  have x2 := (Box2.new w v1 v2).alloc (.cells #[u1, u2] 28)
  have x3 := Box2.new (w.alloc (.cells #[v1, v2] 28)) u1 u2
  simp only [World.size_alloc] at x3
  have hb0 : Below w.heap.size w ((w.alloc (.cells #[v1, v2] 28)).alloc (.cells #[u1, u2] 28)) := ((Below.refl _ w).alloc (Nat.le_refl _) _).alloc (by simp) _
  have hs0 : ((w.alloc (.cells #[v1, v2] 28)).alloc (.cells #[u1, u2] 28)).heap.size = w.heap.size + 2 := by simp
  have z1 := h1.below hb0
  have z2 := h2.below hb0
  obtain ⟨a1, k1, e1⟩ := h1.1.len
  obtain ⟨a2, k2, e2⟩ := h1.2.len
  obtain ⟨a3, k3, e3⟩ := h2.1.len
  obtain ⟨a4, k4, e4⟩ := h2.2.len
  obtain ⟨n, hn⟩ : ∃ n, cl.length = n := ⟨_, rfl⟩
  obtain ⟨m, hm⟩ : ∃ m, gl.length = m := ⟨_, rfl⟩
  have HN := Lib.hid hn; have HM := Lib.hid hm
  rw [hn] at e1 e3 hcl; rw [hm] at e2 e4 hgl
  subst e1; subst e2; subst e3; subst e4
  have X2 := Lib.hid x2; have X3 := Lib.hid x3; have Z1 := Lib.hid z1; have Z2 := Lib.hid z2; have HB0 := Lib.hid hb0
  clear x2 x3 z1 z2 hb0 h1 h2 hn hm
  go_enter Tryz.func16, Tryz.ntmps16
  go_wp2
  obtain ⟨W0, hW0⟩ : ∃ W0, ((w.alloc (.cells #[.slice a1 n k1, .slice a2 m k2] 28)).alloc (.cells #[.slice a3 n k3, .slice a4 m k4] 28)) = W0 := ⟨_, rfl⟩
  rw [hW0] at X2 X3 Z1 Z2 HB0 hs0 ⊢
  clear hW0
  go_loopw [5] (fun i wr => ∃ k : Nat, i = .int .i64 k ∧ k ≤ n ∧ Hid (Below W0.heap.size W0 wr)) (fun i _ => n - (intOf i).toNat)
  case atStart => exact ⟨0, rfl, Nat.zero_le _, Below.refl _ _⟩
  case round =>
    obtain ⟨k, rfl, hk, hb⟩ := hrel
    have x2 : Box2 wr w.heap.size _ _ := (hb.out.block _ X2.out.lt).trans X2.out
    have x3 : Box2 wr (w.heap.size + 1) _ _ := (hb.out.block _ X3.out.lt).trans X3.out
    have c20 := x2.c0; have c21 := x2.c1; have c30 := x3.c0; have c31 := x3.c1
    by_cases hlt : k < n
    · have p1 : (k : Int) < (n : Int) := by omega
      have hkl : k < cl.length := by rw [HN.out]; exact hlt
      obtain ⟨x, hx⟩ : ∃ x, cl[k]? = some x := ⟨_, List.getElem?_eq_getElem hkl⟩
      obtain ⟨xa, xb⟩ := x
      have y1 := Z1.out.1.below hb.out; have y2 := Z2.out.1.below hb.out
      rw [HN.out] at y1 y2
      obtain ⟨g, o, t1, _, d1, d2⟩ := y1.cls hx (by omega)
      obtain ⟨g', o', t2, _, d3, d4⟩ := y2.cls hx (by omega)
      cases t1; cases t2
      clear hx x2 x3 y1 y2
      go_wp2
      go_quiet (fail)
      go_wp2
      go_roundw
      case rel => exact ⟨k + 1, by go_num, by omega, Lib.hid (below_drewN hb.out _)⟩
      case measure => simp [intOf]; omega
    · obtain rfl : k = n := by omega
      clear x2 x3 hlt
      go_wp2
      obtain ⟨W1, rfl⟩ : ∃ W1, W1 = wr := ⟨_, rfl⟩
      go_loopw [6] (fun i wr => ∃ j : Nat, i = .int .i64 j ∧ j ≤ m ∧ Hid (Below W0.heap.size W0 wr)) (fun i _ => m - (intOf i).toNat)
      case atStart => exact ⟨0, rfl, Nat.zero_le _, hb⟩
      case round =>
        clear c20 c21 c30 c31 hb
        obtain ⟨j, rfl, hj, hb⟩ := hrel
        have x2 : Box2 wr w.heap.size _ _ := (hb.out.block _ X2.out.lt).trans X2.out
        have x3 : Box2 wr (w.heap.size + 1) _ _ := (hb.out.block _ X3.out.lt).trans X3.out
        have c20 := x2.c0; have c21 := x2.c1; have c30 := x3.c0; have c31 := x3.c1
        by_cases hlt : j < m
        · have p1 : (j : Int) < (m : Int) := by omega
          have hkl : j < gl.length := by rw [HM.out]; exact hlt
          obtain ⟨x, hx⟩ : ∃ x, gl[j]? = some x := ⟨_, List.getElem?_eq_getElem hkl⟩
          have cx : (ints gl)[j]? = some (.int .i64 x) := by simp [ints, hx]
          have y1 := Z1.out.2.below hb.out; have y2 := Z2.out.2.below hb.out
          rw [HM.out] at y1 y2
          obtain ⟨g, o, t1, _, hc1⟩ := y1.at (by omega)
          obtain ⟨g', o', t2, _, hc2⟩ := y2.at (by omega)
          cases t1; cases t2
          have d1 := hc1 _ _ cx
          have d3 := hc2 _ _ cx
          clear cx hx x2 x3 y1 y2 hc1 hc2
          go_wp2
          go_quiet (fail)
          go_wp2
          go_roundw
          case rel => exact ⟨j + 1, by go_num, by omega, Lib.hid (below_drewN hb.out _)⟩
          case measure => simp [intOf]; omega
        · obtain rfl : j = m := by omega
          have HF := Lib.hid (HB0.out.trans (hb.out.mono HB0.out.size))
          clear x2 x3 hlt
          go_wp2
          go_ret
          exact ⟨rfl, HF.out⟩

end Go.Proofs.YtkkoooagamadjaaGreatDoor
