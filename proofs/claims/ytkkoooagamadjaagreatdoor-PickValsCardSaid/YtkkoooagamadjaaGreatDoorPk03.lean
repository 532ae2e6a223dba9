/- The counting of pairs in a map that the call made: what each operation does to the block; no condition beyond those stated. -/
import Derived.Test.YtkkoooagamadjaaGreatDoorPk02

namespace Go.Proofs.YtkkoooagamadjaaGreatDoor
open Go.RowKit Go.MapKept Go.WideMaps
open Go.ChangeMaps (setBlock heap_setBlock_same heap_setBlock_other frozen?_setBlock)

def cntP (pre : List (Int × Int)) (p : Int × Int) : Nat := (pre.filter fun q => decide (q = p)).length
theorem cntP_snoc (pre : List (Int × Int)) (x p : Int × Int) : cntP (pre ++ [x]) p = cntP pre p + if x = p then 1 else 0 := by
  unfold cntP
  rw [List.filter_append, List.length_append]
  by_cases h : x = p <;> simp [h]
theorem cntP_le (pre : List (Int × Int)) (p : Int × Int) : cntP pre p ≤ pre.length := List.length_filter_le _ _
theorem cntP_zero (pre : List (Int × Int)) (p : Int × Int) : cntP pre p = 0 ↔ p ∉ pre := by
  unfold cntP
  rw [List.length_eq_zero_iff, List.filter_eq_nil_iff]
  constructor
  · intro h hp; have := h p hp; simp at this
  · intro h q hq hc; simp at hc; subst hc; exact h hq

def pairV (p : Int × Int) : Value := .agg #[.int .i64 p.1, .int .i64 p.2]
theorem pairV_inj {p q : Int × Int} (h : pairV p = pairV q) : p = q := by
  unfold pairV at h; simp at h; exact Prod.ext h.1 h.2
def okP (p : Int × Int) : Prop := (Lit.int .i64 p.1).wf = true ∧ (Lit.int .i64 p.2).wf = true

theorem pairArr : ArrKey Tryz.prog 98 3 2 := ⟨Tryz.underlying98, by kernel_rfl, by kernel_rfl, by kernel_rfl⟩
theorem pairLaw : KeyLaw Tryz.prog 98 := pairArr.law
theorem types_pos : 0 < Tryz.prog.types.size := of_decide_eq_true (by kernel_rfl)
theorem keyOf_pairV {p : Int × Int} (h : okP p) : ∃ l, keyOf Tryz.prog 98 (pairV p) = some l :=
  ⟨_, keyOf_pair pairArr Tryz.underlying3 ⟨Tryz.prog.types.size - 1, by have := types_pos; omega⟩ h.1 h.2⟩

/-- the entries count what came -/
structure SeenArr (es : Array MapEntry) (clock : Nat) (pre : List (Int × Int)) : Prop where
  stamped : Stamped es clock
  vals : ∀ e ∈ es.toList, ∃ p, p ∈ pre ∧ e.key = pairV p ∧ e.val = .int .i64 (cntP pre p)
  has : ∀ p ∈ pre, ∃ e ∈ es.toList, e.key = pairV p
  ok : ∀ p ∈ pre, okP p

section
variable {es : Array MapEntry} {clock b : Nat}

theorem find_none {p : Int × Int} (hp : okP p) (hk : ∀ e ∈ es.toList, ∃ q, okP q ∧ e.key = pairV q) (h : ∀ e ∈ es.toList, e.key ≠ pairV p) (w : World) : (Instr.findKey 98 (pairV p) es.toList).run Tryz.prog w = .ok none w := by
  obtain ⟨l, hl⟩ := keyOf_pairV hp
  rcases pairLaw.find w hl es.toList (fun e he => by obtain ⟨q, hq, e1⟩ := hk e he; rw [e1]; exact keyOf_pairV hq) with ⟨h1, _⟩ | ⟨j, e, _, h2, h3⟩
  · exact h1
  · exact absurd h3 (h e (List.mem_of_getElem? h2))

theorem find_some {p : Int × Int} (hp : okP p) (hk : ∀ e ∈ es.toList, ∃ q, okP q ∧ e.key = pairV q) (hn : (es.toList.map (·.key)).Nodup) {j : Nat} {e0 : MapEntry} (hj : es.toList[j]? = some e0) (h0 : e0.key = pairV p) (w : World) :
    (Instr.findKey 98 (pairV p) es.toList).run Tryz.prog w = .ok (some (j, e0.val)) w := by
  obtain ⟨l, hl⟩ := keyOf_pairV hp
  rcases pairLaw.find w hl es.toList (fun e he => by obtain ⟨q, hq, e1⟩ := hk e he; rw [e1]; exact keyOf_pairV hq) with ⟨_, h2⟩ | ⟨i, e, h1, h2, h3⟩
  · exact absurd h0 (h2 e0 (List.mem_of_getElem? hj))
  · have hi : i < (es.toList.map (·.key)).length := by rw [List.length_map]; exact (List.getElem?_eq_some_iff.1 h2).1
    have : i = j := (List.getElem?_inj hi hn).1 (by rw [List.getElem?_map, List.getElem?_map, h2, hj]; simp [h3, h0])
    subst this
    rw [h2] at hj; cases hj
    exact h1

theorem look_run {p : Int × Int} (hp : okP p) (w : World) (hb : w.heap[b]? = some (.map es clock)) {r : Option (Nat × Value)} (hf : ∀ w, (Instr.findKey 98 (pairV p) es.toList).run Tryz.prog w = .ok r w) :
    (Instr.lookup 135 (.map (some b)) (pairV p) false).run Tryz.prog w = .ok (match r with | some (_, v) => v | none => .int .i64 0) w := by
  obtain ⟨l, hl⟩ := keyOf_pairV hp
  have hz : (zeroValue 3).run Tryz.prog w = .ok (.int .i64 0) w := Tryz.zeroValue3 _
  cases r with
  | none => simp [Instr.lookup, run_underlying Tryz.underlying135, MapKept.run_getObj_map hb, pairLaw.check w _ hl, hf, hz, Result.andThen]
  | some x => simp [Instr.lookup, run_underlying Tryz.underlying135, MapKept.run_getObj_map hb, pairLaw.check w _ hl, hf, Result.andThen]

theorem seen_step {pre : List (Int × Int)} (hS : SeenArr es clock pre) {x : Int × Int} (hx : okP x) :
    ∃ (v0 : Value) (st : Nat) (es1 es2 : Array MapEntry) (clock1 clock2 : Nat),
      (∀ w : World, w.heap[b]? = some (.map es clock) → (Instr.lookup 135 (.map (some b)) (pairV x) false).run Tryz.prog w = .ok (.int .i64 (cntP pre x)) w) ∧
      (∀ w : World, w.heap[b]? = some (.map es clock) → (Instr.mapEntry 135 (.map (some b)) (pairV x)).run Tryz.prog w = .ok (.tuple #[v0, .int .i64 st]) (setBlock w b (.map es1 clock1))) ∧
      (∀ w : World, w.heap[b]? = some (.map es1 clock1) → (Instr.lookup 135 (.map (some b)) (pairV x) false).run Tryz.prog w = .ok (.int .i64 (cntP pre x)) w) ∧
      (∀ w : World, w.heap[b]? = some (.map es1 clock1) → (Instr.entryStore 135 (.map (some b)) (.int .i64 st) (.int .i64 ((cntP pre x : Nat) + 1 : Int))).run Tryz.prog w = .ok () (setBlock w b (.map es2 clock2))) ∧
      (∀ w : World, w.heap[b]? = some (.map es2 clock2) → (Instr.lookup 135 (.map (some b)) (pairV x) false).run Tryz.prog w = .ok (.int .i64 ((cntP pre x : Nat) + 1 : Int)) w) ∧
      SeenArr es2 clock2 (pre ++ [x]) := by
  obtain ⟨l, hl⟩ := keyOf_pairV hx
  obtain ⟨s1, s2, s3⟩ := hS.stamped
  have hk : ∀ e ∈ es.toList, ∃ q, okP q ∧ e.key = pairV q := fun e he => by obtain ⟨p, hp, h1, _⟩ := hS.vals e he; exact ⟨p, hS.ok p hp, h1⟩
  have hz : ∀ w : World, (zeroValue 3).run Tryz.prog w = .ok (.int .i64 0) w := fun w => Tryz.zeroValue3 _
  have ht := Tryz.underlying135
  have hok2 : ∀ p ∈ pre ++ [x], okP p := fun p hp => by
    rcases List.mem_append.1 hp with h | h
    · exact hS.ok p h
    · simp at h; subst h; exact hx
  by_cases hin : x ∈ pre
  · obtain ⟨e0, he0, hk0⟩ := hS.has x hin
    obtain ⟨j, hj⟩ := List.mem_iff_getElem?.1 he0
    have hv0 : e0.val = .int .i64 (cntP pre x) := by
      obtain ⟨p, _, h1, h2⟩ := hS.vals e0 he0
      rw [pairV_inj (h1.symm.trans hk0)] at h2; exact h2
    have hf := find_some hx hk s3 hj hk0
    have hj' : es[j]? = some e0 := by simpa using hj
    have hsame : es.modify j (fun e => { e with key := pairV x }) = es := by
      apply Array.ext'
      rw [Array.toList_modify, ChangeMaps.modify_eq_set _ _ _ _ hj]
      have : ({ e0 with key := pairV x } : MapEntry) = e0 := by rw [← hk0]
      rw [this]
      exact WideElems.set_self _ _ _ hj
    have hlook : ∀ w : World, w.heap[b]? = some (.map es clock) → (Instr.lookup 135 (.map (some b)) (pairV x) false).run Tryz.prog w = .ok (.int .i64 (cntP pre x)) w := fun w hb => by
      rw [look_run hx w hb hf]; simp [hv0]
    have hl2 : (es.modify j fun e => { e with val := .int .i64 ((cntP pre x : Nat) + 1 : Int) }).toList = es.toList.set j { e0 with val := .int .i64 ((cntP pre x : Nat) + 1 : Int) } := by
      rw [Array.toList_modify, ChangeMaps.modify_eq_set _ _ _ _ hj]
    have hst2 : Stamped (es.modify j fun e => { e with val := .int .i64 ((cntP pre x : Nat) + 1 : Int) }) clock := stamped_modify ⟨s1, s2, s3⟩ j _ (fun _ _ => rfl) (fun _ _ _ => rfl)
    have hlt : j < es.toList.length := (List.getElem?_eq_some_iff.1 hj).1
    have hS2 : SeenArr (es.modify j fun e => { e with val := .int .i64 ((cntP pre x : Nat) + 1 : Int) }) clock (pre ++ [x]) := by
      refine ⟨hst2, fun e he => ?_, fun p hp => ?_, hok2⟩
      · rw [hl2] at he
        obtain ⟨i, hi⟩ := List.mem_iff_getElem?.1 he
        rw [List.getElem?_set] at hi
        by_cases hij : j = i
        · subst hij
          rw [if_pos rfl, if_pos hlt] at hi
          cases hi
          exact ⟨x, by simp, hk0, int_eq (by rw [cntP_snoc, if_pos rfl]; omega)⟩
        · rw [if_neg hij] at hi
          obtain ⟨p, hp, h1, h2⟩ := hS.vals e (List.mem_of_getElem? hi)
          have hne : x ≠ p := fun e1 => hij (by
            subst e1
            have hjl : j < (es.toList.map (·.key)).length := by rw [List.length_map]; exact hlt
            exact (List.getElem?_inj hjl s3).1 (by rw [List.getElem?_map, List.getElem?_map, hj, hi]; simp [hk0, h1]))
          exact ⟨p, by simp [hp], h1, by rw [cntP_snoc, if_neg hne, Nat.add_zero]; exact h2⟩
      · have hp' : p ∈ pre := by
          rcases List.mem_append.1 hp with h | h
          · exact h
          · simp at h; subst h; exact hin
        obtain ⟨e, he, h1⟩ := hS.has p hp'
        obtain ⟨i, hi⟩ := List.mem_iff_getElem?.1 he
        by_cases hij : j = i
        · subst hij
          rw [hj] at hi; cases hi
          exact ⟨{ e0 with val := .int .i64 ((cntP pre x : Nat) + 1 : Int) }, by rw [hl2]; exact List.mem_of_getElem? (i := j) (by rw [List.getElem?_set, if_pos rfl, if_pos hlt]), h1⟩
        · exact ⟨e, by rw [hl2]; exact List.mem_of_getElem? (i := i) (by rw [List.getElem?_set, if_neg hij]; exact hi), h1⟩
    refine ⟨e0.val, e0.born, es, _, clock, clock, hlook, fun w hb => ?_, hlook, fun w hb => ?_, fun w hb => ?_, hS2⟩
    · simp [Instr.mapEntry, run_underlying ht, MapKept.run_getObj_map hb, pairLaw.check w false hl, hf, hj', hk0, pairLaw.stays w hl, hsame, MapKept.run_setObj_map _ hb, Result.andThen, setBlock, goInt]
    · have hidx : es.findIdx? (fun e => ((e.born : Nat) : Int) == ((e0.born : Nat) : Int)) = some j := by
        rw [WideElems.findIdx_arr]
        exact WideElems.findIdx_born s2 hj
      simp [Instr.entryStore, MapKept.run_getObj_map hb, asInt, asIntOf, hidx, MapKept.run_setObj_map _ hb, Result.andThen, setBlock]
    · have hk2 : ∀ e ∈ (es.modify j fun e => { e with val := .int .i64 ((cntP pre x : Nat) + 1 : Int) }).toList, ∃ q, okP q ∧ e.key = pairV q := fun e he => by
        obtain ⟨p, hp, h1, _⟩ := hS2.vals e he; exact ⟨p, hok2 p hp, h1⟩
      have hf2 := find_some (j := j) (e0 := { e0 with val := .int .i64 ((cntP pre x : Nat) + 1 : Int) }) hx hk2 hst2.2.2 (by rw [hl2, List.getElem?_set, if_pos rfl, if_pos hlt]) hk0
      rw [look_run hx w hb hf2]
  · have hno : ∀ e ∈ es.toList, e.key ≠ pairV x := fun e he hc => by
      obtain ⟨p, hp, h1, _⟩ := hS.vals e he
      rw [pairV_inj (hc.symm.trans h1)] at hin
      exact hin hp
    have hf := find_none hx hk hno
    have hc0 : cntP pre x = 0 := (cntP_zero _ _).2 hin
    have hvals1 : ∀ v : Value, ∀ e ∈ (es.push ⟨pairV x, v, clock⟩).toList, ∃ q, okP q ∧ e.key = pairV q := fun v e he => by
      rw [Array.toList_push] at he
      rcases List.mem_append.1 he with h | h
      · exact hk e h
      · simp at h; subst h; exact ⟨x, hx, rfl⟩
    have hst1 : ∀ v : Value, Stamped (es.push ⟨pairV x, v, clock⟩) (clock + 1) := fun v => stamped_push ⟨s1, s2, s3⟩ hno
    have hlast : ∀ v : Value, (es.push ⟨pairV x, v, clock⟩).toList[es.size]? = some ⟨pairV x, v, clock⟩ := fun v => by simp
    have hf1 : ∀ (v : Value) (w : World), (Instr.findKey 98 (pairV x) (es.push ⟨pairV x, v, clock⟩).toList).run Tryz.prog w = .ok (some (es.size, v)) w := fun v w => find_some hx (hvals1 v) (hst1 v).2.2 (hlast v) rfl w
    have hS2 : SeenArr (es.push ⟨pairV x, .int .i64 ((cntP pre x : Nat) + 1 : Int), clock⟩) (clock + 1) (pre ++ [x]) := by
      refine ⟨hst1 _, fun e he => ?_, fun p hp => ?_, hok2⟩
      · rw [Array.toList_push] at he
        rcases List.mem_append.1 he with h | h
        · obtain ⟨p, hp, h1, h2⟩ := hS.vals e h
          have hne : x ≠ p := fun e1 => hin (e1 ▸ hp)
          exact ⟨p, by simp [hp], h1, by rw [cntP_snoc, if_neg hne, Nat.add_zero]; exact h2⟩
        · simp at h; subst h
          exact ⟨x, by simp, rfl, int_eq (by rw [cntP_snoc, if_pos rfl]; omega)⟩
      · rw [Array.toList_push]
        rcases List.mem_append.1 hp with h | h
        · obtain ⟨e, he, h1⟩ := hS.has p h
          exact ⟨e, List.mem_append.2 (.inl he), h1⟩
        · simp at h; subst h
          exact ⟨_, List.mem_append.2 (.inr (List.mem_singleton.2 rfl)), rfl⟩
    refine ⟨.int .i64 0, clock, es.push ⟨pairV x, .int .i64 0, clock⟩, es.push ⟨pairV x, .int .i64 ((cntP pre x : Nat) + 1 : Int), clock⟩, clock + 1, clock + 1, fun w hb => ?_, fun w hb => ?_, fun w hb => ?_, fun w hb => ?_, fun w hb => ?_, hS2⟩
    · rw [look_run hx w hb hf, hc0]; rfl
    · simp [Instr.mapEntry, run_underlying ht, MapKept.run_getObj_map hb, pairLaw.check w false hl, hf, hz, MapKept.run_setObj_map _ hb, Result.andThen, setBlock, goInt]
    · rw [look_run hx w hb (hf1 _), hc0]; rfl
    · have hidx : (es.push ⟨pairV x, .int .i64 0, clock⟩).findIdx? (fun e => ((e.born : Nat) : Int) == ((clock : Nat) : Int)) = some es.size := by
        rw [WideElems.findIdx_arr]
        exact WideElems.findIdx_born (hst1 _).2.1 (hlast _)
      have hmod : (es.push ⟨pairV x, .int .i64 0, clock⟩).modify es.size (fun e => { e with val := .int .i64 ((cntP pre x : Nat) + 1 : Int) }) = es.push ⟨pairV x, .int .i64 ((cntP pre x : Nat) + 1 : Int), clock⟩ := by
        apply Array.ext'
        rw [Array.toList_modify, Array.toList_push, Array.toList_push, ← Array.length_toList, WideElems.modify_last]
      simp only [Instr.entryStore, Sem.run_bind, MapKept.run_getObj_map hb, asInt, asIntOf, Result.andThen, Sem.run_pure, hidx, hmod, MapKept.run_setObj_map _ hb, setBlock]
    · rw [look_run hx w hb (hf1 _)]

end

end Go.Proofs.YtkkoooagamadjaaGreatDoor
