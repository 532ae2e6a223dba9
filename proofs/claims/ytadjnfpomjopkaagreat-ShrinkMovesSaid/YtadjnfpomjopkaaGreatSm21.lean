/- A drawn region walked by hand as in XHand; behind the operations of F (the last stores) what was held need not hold any more: all that was taken has come up by then. Numbers of one's own that are turned one by one, while all else stays. Plain: numbers set one behind the other. -/
import Derived.Test.YtadjnfpomjopkaaGreatSm12
import Derived.Test.YtadjnfpomjopkaaGreatSm20
import Derived.Test.YtadjnfpomjopkaaGreatSm05

namespace Go.Proofs.YtadjnfpomjopkaaGreat
open Go.RowKit
section
variable {P : Program} {ops : Array Oper} {Q : Exit → Act → World → Prop} {S : World → Prop} {md : Region.Mode} {F G : Nat → Bool}

/-- whatever order; S holds behind every operation but those of F; those of G (that look at no cell) leave it as it is -/
def wpAnyG (P : Program) (md : Region.Mode) (ops : Array Oper) (Q : Exit → Act → World → Prop) (S : World → Prop) (F G : Nat → Bool) : Nat → Array Bool → Act → World → Prop
  | 0, l, a, w => Region.ready md ops l = [] ∧ Q .normal a w
  | n + 1, l, a, w => (Region.ready md ops l = [] → Q .normal a w) ∧ ∀ i ∈ Region.ready md ops l, wpOp P ops Q i (fun a' w' => (F i = false → (G i = true → S w) → S w') ∧ wpAnyG P md ops Q S F G n (l.setIfInBounds i true) a' w') a w

theorem wpAnyG.any : ∀ (n : Nat) (l : Array Bool) (a : Act) (w : World), wpAnyG P md ops Q S F G n l a w → wpAny P md ops Q n l a w
  | 0, _, _, _, h => h
  | n + 1, _, _, _, h => ⟨h.1, fun i hi => wpOp_mono (fun a' w' h' => wpAnyG.any n _ a' w' h'.2) (h.2 i hi)⟩

/-- each of F waits for i -/
def waitF (md : Region.Mode) (ops : Array Oper) (F : Nat → Bool) (i : Nat) : Bool := (List.range ops.size).all fun j => !F j || match ops[j]? with | some o => o.after.any fun e => Region.binds md e && e.on == i | none => true
theorem waitF_spec {i : Nat} (h : waitF md ops F i = true) {j : Nat} {o : Oper} (hj : ops[j]? = some o) (hF : F j = true) : ∃ e ∈ o.after, Region.binds md e = true ∧ e.on = i := by
  have hjl : j < ops.size := (Array.getElem?_eq_some_iff.1 hj).1
  have h1 := List.all_eq_true.1 h j (List.mem_range.2 hjl)
  rw [hF, hj] at h1
  have h2 : ∃ (n : Nat) (h : n < o.after.size), Region.binds md o.after[n] = true ∧ o.after[n].on = i := by simpa using h1
  obtain ⟨n, hn, h3, h4⟩ := h2
  exact ⟨_, Array.getElem_mem hn, h3, h4⟩

/-- each yields its value: where S holds, or (those of G) wherever -/
def TakeSeq2 (P : Program) (ops : Array Oper) (S : World → Prop) (G : Nat → Bool) (K : Act → Prop) : List Nat → Act → Prop
  | [], a => K a
  | i :: r, a => ∃ oi v, ops[i]? = some oi ∧ ((G i = false → YieldsIf P ops S oi v a) ∧ (G i = true → YieldsIf P ops (fun _ => True) oi v a)) ∧ TakeSeq2 P ops S G K r (a.put oi.dst v)
theorem TakeSeq2.nil {K : Act → Prop} {a : Act} (h : K a) : TakeSeq2 P ops S G K [] a := h
theorem TakeSeq2.cons {K : Act → Prop} {i : Nat} {r : List Nat} {a : Act} {oi : Oper} {v : Value} (hG : G i = false) (hi : ops[i]? = some oi) (hw : Region.wanted oi (yielded ops a.tmps) = true) (hy : ∀ w, S w → (execOp a.eval oi).run P w = .ok (.value v) w) (h : TakeSeq2 P ops S G K r (a.put oi.dst v)) : TakeSeq2 P ops S G K (i :: r) a :=
  ⟨oi, v, hi, ⟨fun _ => .inl ⟨hw, hy⟩, fun h => by rw [hG] at h; cases h⟩, h⟩
theorem TakeSeq2.pure {K : Act → Prop} {i : Nat} {r : List Nat} {a : Act} {oi : Oper} {v : Value} (hG : G i = true) (hi : ops[i]? = some oi) (hw : Region.wanted oi (yielded ops a.tmps) = true) (hy : ∀ w, True → (execOp a.eval oi).run P w = .ok (.value v) w) (h : TakeSeq2 P ops S G K r (a.put oi.dst v)) : TakeSeq2 P ops S G K (i :: r) a :=
  ⟨oi, v, hi, ⟨fun h => (by rw [hG] at h; cases h), fun _ => .inl ⟨hw, hy⟩⟩, h⟩
theorem TakeSeq2.skip {K : Act → Prop} {i : Nat} {r : List Nat} {a : Act} {oi : Oper} (hi : ops[i]? = some oi) (hw : Region.wanted oi (yielded ops a.tmps) = false) (h : TakeSeq2 P ops S G K r (a.put oi.dst undef)) : TakeSeq2 P ops S G K (i :: r) a :=
  ⟨oi, undef, hi, ⟨fun _ => .inr ⟨hw, rfl⟩, fun _ => .inr ⟨hw, rfl⟩⟩, h⟩
theorem takeG_first {T : World → Prop} {i : Nat} {oi : Oper} {v : Value} (hi : ops[i]? = some oi) (hs : Region.noSelect ops = true) (hw : (G i = true ∧ ∀ w, T w) ∨ (G i = false ∧ (∀ w, S w → T w) ∧ waitF md ops F i = true)) (hQ : ∀ c a w, Q (.panic c) (a.put oi.dst v) w → Q (.panic c) a w) :
    ∀ (n : Nat) (l : Array Bool) (a : Act) (w : World), (∀ j oj, ops[j]? = some oj → j ≠ i → l.getD j true = false → (∀ e ∈ oj.after, Region.binds md e = true → e.on ≠ i) → oi.apart ops oj = true) →
      i ∈ Region.ready md ops l → YieldsIf P ops T oi v a → T w → (G i = false → S w) → wpAnyG P md ops Q S F G n (l.setIfInBounds i true) (a.put oi.dst v) w → wpAnyG P md ops Q S F G (n + 1) l a w := by
  have hsel := Region.noSelect_spec hs
  intro n
  induction n with
  | zero =>
    intro l a w _ hr hy hT hS H
    refine ⟨fun h => absurd hr (by rw [h]; simp), fun j hj => ?_⟩
    by_cases e : j = i
    · obtain rfl := e
      refine hy.wpOp hi hT ⟨fun _ h => ?_, H⟩
      cases hG : G j
      · exact hS hG
      · exact h hG
    · have := ready_mono hj e
      rw [H.1] at this
      exact absurd this (by simp)
  | succ n ih =>
    intro l a w hap hr hy hT hS H
    refine ⟨fun h => absurd hr (by rw [h]; simp), fun j hj => ?_⟩
    by_cases e : j = i
    · obtain rfl := e
      refine hy.wpOp hi hT ⟨fun _ h => ?_, H⟩
      cases hG : G j
      · exact hS hG
      · exact h hG
    obtain ⟨hl, oj, hoj, hall⟩ := mem_ready.1 hj
    have hil := (mem_ready.1 hr).1
    have hno : ∀ x ∈ oj.after, Region.binds md x = true → x.on ≠ i := by
      intro x hx hb hxi
      have h1 := hall x hx hb
      rw [hxi] at h1
      rcases Nat.lt_or_ge i l.size with h2 | h2
      · simp only [Array.getD_eq_getD_getElem?, Array.getElem?_eq_getElem h2, Option.getD_some] at h1 hil
        rw [hil] at h1; cases h1
      · simp only [Array.getD_eq_getD_getElem?, Array.getElem?_eq_none h2, Option.getD_none] at h1
        cases h1
    have hFj : G i = false → F j = false := by
      intro hGi
      rcases hw with hw | hw
      · rw [hw.1] at hGi; cases hGi
      · cases hF : F j
        · rfl
        · obtain ⟨x, hx, hb, hxi⟩ := waitF_spec hw.2.2 hoj hF
          exact absurd hxi (hno x hx hb)
    have hstep := wpOp_putIf hoj (hap j oj hoj e hl hno) (fun cs b => hsel i oi cs b hi) (fun cs b => hsel j oj cs b hoj) hQ hy (H.2 j (ready_mono hj e))
    refine wpOp_mono (fun a' w' h3 => ?_) hstep
    obtain ⟨hy', hS', hG⟩ := h3
    have hSn : G i = false → S w' := fun hGi => hS' (hFj hGi) (fun _ => hS hGi)
    have hTn : T w' := by
      rcases hw with hw | hw
      · exact hw.2 w'
      · exact hw.2.1 w' (hSn hw.1)
    refine ⟨hS', ih _ a' w' ?_ (ready_mono hr (Ne.symm e)) hy' hTn hSn ?_⟩
    · intro k ok hk hki hun hnk
      refine hap k ok hk hki ?_ hnk
      by_cases hjk : j = k
      · rw [← hjk]; exact hl
      · rw [getD_set_ne true hjk] at hun; exact hun
    · rw [Array.setIfInBounds_comm _ _ e]; exact hG

theorem takesG (is : List Nat) (hs : Region.noSelect ops = true) (hQ : PutFree Q) : ∀ {fuel : Nat} {listed : Array Bool} {a : Act} {w : World}, seqOK md ops is listed = true → is.all (fun i => G i || waitF md ops F i) = true → Nat.ble is.length fuel = true → S w →
    TakeSeq2 P ops S G (fun a' => wpAnyG P md ops Q S F G (fuel - is.length) (seqL is listed) a' w) is a → wpAnyG P md ops Q S F G fuel listed a w := by
  induction is with
  | nil => exact fun _ _ _ _ h => h
  | cons i r ih =>
    intro fuel listed a w hc hwt hf hS h
    cases fuel with
    | zero => cases hf
    | succ fuel =>
      obtain ⟨oi, v, hi, hy, h⟩ := h
      simp only [seqOK, Bool.and_eq_true] at hc
      simp only [List.all_cons, Bool.and_eq_true] at hwt
      have e : fuel + 1 - (i :: r).length = fuel - r.length := by simp
      rw [e] at h
      cases hG : G i
      · have h1 := hwt.1
        rw [hG, Bool.false_or] at h1
        exact takeG_first (T := S) hi hs (.inr ⟨hG, fun _ h => h, h1⟩) (fun c a w => hQ c a _ _ w) _ _ _ _ (Region.free_spec hi hc.1.1) (by simpa using hc.1.2) (hy.1 hG) hS (fun _ => hS) (ih hc.2 hwt.2 hf hS h)
      · exact takeG_first (T := fun _ => True) hi hs (.inl ⟨hG, fun _ => trivial⟩) (fun c a w => hQ c a _ _ w) _ _ _ _ (Region.free_spec hi hc.1.1) (by simpa using hc.1.2) (hy.2 hG) trivial (fun _ => hS) (ih hc.2 hwt.2 hf hS h)

/-- those of G alone: nothing need hold -/
theorem takesP (is : List Nat) (hs : Region.noSelect ops = true) (hQ : PutFree Q) : ∀ {fuel : Nat} {listed : Array Bool} {a : Act} {w : World}, seqOK md ops is listed = true → is.all G = true → Nat.ble is.length fuel = true →
    TakeSeq P ops (fun _ => True) (fun a' => wpAnyG P md ops Q S F G (fuel - is.length) (seqL is listed) a' w) is a → wpAnyG P md ops Q S F G fuel listed a w := by
  induction is with
  | nil => exact fun _ _ _ h => h
  | cons i r ih =>
    intro fuel listed a w hc hwt hf h
    cases fuel with
    | zero => cases hf
    | succ fuel =>
      obtain ⟨oi, v, hi, hy, h⟩ := h
      simp only [seqOK, Bool.and_eq_true] at hc
      simp only [List.all_cons, Bool.and_eq_true] at hwt
      have e : fuel + 1 - (i :: r).length = fuel - r.length := by simp
      rw [e] at h
      exact takeG_first (T := fun _ => True) hi hs (.inl ⟨hwt.1, fun _ => trivial⟩) (fun c a w => hQ c a _ _ w) _ _ _ _ (Region.free_spec hi hc.1.1) (by simpa using hc.1.2) hy trivial (fun h => by rw [hwt.1] at h; cases h) (ih hc.2 hwt.2 hf h)

theorem oneG {n : Nat} {l : Array Bool} {a : Act} {w : World} {i : Nat} {o : Oper} (ho : ops[i]? = some o) (hw : Region.wanted o (yielded ops a.tmps) = true)
    (h : ∀ K' : Act → World → Prop, Shut (∀ a w, (F i = false → S w) → wpAnyG P md ops Q S F G n (l.setIfInBounds i true) a w → K' a w) → Oper.wp P o a w K' Q) :
    wpOp P ops Q i (fun a' w' => (F i = false → (G i = true → S w) → S w') ∧ wpAnyG P md ops Q S F G n (l.setIfInBounds i true) a' w') a w := by
  unfold wpOp
  simp only [ho, hw, if_true]
  exact .inl (h _ (fun a w h1 h2 => ⟨fun hF _ => h1 hF, h2⟩))

/-- those that may come up -/
theorem callG1 (i : Nat) {fuel : Nat} {listed : Array Bool} {a : Act} {w : World} {o : Oper} (hr : (Region.ready md ops listed == [i]) = true) (hf : Nat.ble 1 fuel = true) (ho : ops[i]? = some o) (hw : Region.wanted o (yielded ops a.tmps) = true)
    (h : ∀ K' : Act → World → Prop, Shut (∀ a w, (F i = false → S w) → wpAnyG P md ops Q S F G (fuel - 1) (listed.setIfInBounds i true) a w → K' a w) → Oper.wp P o a w K' Q) : wpAnyG P md ops Q S F G fuel listed a w := by
  have hr' : Region.ready md ops listed = [i] := by simpa using hr
  cases fuel with
  | zero => cases hf
  | succ n =>
    refine ⟨fun h0 => absurd h0 (by rw [hr']; simp), fun x hx => ?_⟩
    rw [hr'] at hx
    simp only [List.mem_singleton] at hx
    subst hx
    exact oneG ho hw h
theorem callG2 (i j : Nat) {fuel : Nat} {listed : Array Bool} {a : Act} {w : World} {o o' : Oper} (hr : (Region.ready md ops listed == [i, j]) = true) (hf : Nat.ble 1 fuel = true) (ho : ops[i]? = some o) (hw : Region.wanted o (yielded ops a.tmps) = true)
    (ho' : ops[j]? = some o') (hw' : Region.wanted o' (yielded ops a.tmps) = true)
    (h : ∀ K' : Act → World → Prop, Shut (∀ a w, (F i = false → S w) → wpAnyG P md ops Q S F G (fuel - 1) (listed.setIfInBounds i true) a w → K' a w) → Oper.wp P o a w K' Q)
    (h' : ∀ K' : Act → World → Prop, Shut (∀ a w, (F j = false → S w) → wpAnyG P md ops Q S F G (fuel - 1) (listed.setIfInBounds j true) a w → K' a w) → Oper.wp P o' a w K' Q) : wpAnyG P md ops Q S F G fuel listed a w := by
  have hr' : Region.ready md ops listed = [i, j] := by simpa using hr
  cases fuel with
  | zero => cases hf
  | succ n =>
    refine ⟨fun h0 => absurd h0 (by rw [hr']; simp), fun x hx => ?_⟩
    rw [hr'] at hx
    simp only [List.mem_cons, List.not_mem_nil, or_false] at hx
    rcases hx with rfl | rfl
    · exact oneG ho hw h
    · exact oneG ho' hw' h'
theorem callG3 (i j k : Nat) {fuel : Nat} {listed : Array Bool} {a : Act} {w : World} {o o' o'' : Oper} (hr : (Region.ready md ops listed == [i, j, k]) = true) (hf : Nat.ble 1 fuel = true) (ho : ops[i]? = some o) (hw : Region.wanted o (yielded ops a.tmps) = true)
    (ho' : ops[j]? = some o') (hw' : Region.wanted o' (yielded ops a.tmps) = true) (ho'' : ops[k]? = some o'') (hw'' : Region.wanted o'' (yielded ops a.tmps) = true)
    (h : ∀ K' : Act → World → Prop, Shut (∀ a w, (F i = false → S w) → wpAnyG P md ops Q S F G (fuel - 1) (listed.setIfInBounds i true) a w → K' a w) → Oper.wp P o a w K' Q)
    (h' : ∀ K' : Act → World → Prop, Shut (∀ a w, (F j = false → S w) → wpAnyG P md ops Q S F G (fuel - 1) (listed.setIfInBounds j true) a w → K' a w) → Oper.wp P o' a w K' Q)
    (h'' : ∀ K' : Act → World → Prop, Shut (∀ a w, (F k = false → S w) → wpAnyG P md ops Q S F G (fuel - 1) (listed.setIfInBounds k true) a w → K' a w) → Oper.wp P o'' a w K' Q) : wpAnyG P md ops Q S F G fuel listed a w := by
  have hr' : Region.ready md ops listed = [i, j, k] := by simpa using hr
  cases fuel with
  | zero => cases hf
  | succ n =>
    refine ⟨fun h0 => absurd h0 (by rw [hr']; simp), fun x hx => ?_⟩
    rw [hr'] at hx
    simp only [List.mem_cons, List.not_mem_nil, or_false] at hx
    rcases hx with rfl | rfl | rfl
    · exact oneG ho hw h
    · exact oneG ho' hw' h'
    · exact oneG ho'' hw'' h''
theorem startG (F G : Nat → Bool) {id : Nat} {a : Act} {w : World} (hm : P.follows .mixedOrders = true) (hS : S w.drew)
    (h : S w.drew → wpAnyG P .any ops Q S F G ops.size (Array.replicate ops.size false) a w.drew) : (Code.region id ops true).wp P Q a w := wp_region_any hm (wpAnyG.any _ _ _ _ (h hS))
theorem doneG {fuel : Nat} {listed : Array Bool} {a : Act} {w : World} (hr : (Region.ready md ops listed).isEmpty = true) (h : Q .normal a w) : wpAnyG P md ops Q S F G fuel listed a w := by
  have hr' : Region.ready md ops listed = [] := by simpa using hr
  cases fuel with
  | zero => exact ⟨hr', h⟩
  | succ n => exact ⟨fun _ => h, by rw [hr']; simp⟩
end
end Go.Proofs.YtadjnfpomjopkaaGreat

namespace Go.Proofs.YtadjnfpomjopkaaGreat
open Go.RowKit

/-- the row at ad has turned, and nothing else that was there -/
def OwnT (V W : World) (B : Nat) (ad : Option Addr) (t : TypeId) (l : List Int) : Prop := OwnI W B ad t l ∧ Below B V W ∧ ∀ b, b < V.heap.size → (∀ a : Addr, ad = some a → b ≠ a.block) → W.heap[b]? = V.heap[b]?
theorem OwnT.refl {V : World} {B : Nat} {ad : Option Addr} {t : TypeId} {l : List Int} (h : OwnI V B ad t l) : OwnT V V B ad t l := ⟨h, Below.refl _ _, fun _ _ _ => rfl⟩
theorem OwnT.blk {V W : World} {B g : Nat} {ad : Option Addr} {t u : TypeId} {l : List Int} {cs : Array Value} (h : OwnT V W B ad t l) (hg : Blk V g cs u) (hne : ∀ a : Addr, ad = some a → g ≠ a.block) : Blk W g cs u := (h.2.2 g hg.lt hne).trans hg
theorem OwnT.low {V W : World} {B g : Nat} {ad : Option Addr} {t u : TypeId} {l : List Int} {cs : Array Value} (h : OwnT V W B ad t l) (hg : Blk V g cs u) (hB : g < B) : Blk W g cs u := hg.low h.2.1 hB
theorem OwnT.grow {V W W' : World} {B : Nat} {ad : Option Addr} {t : TypeId} {l : List Int} (h : OwnT V W B ad t l) (hV : B ≤ V.heap.size) (hb : Below W.heap.size W W') : OwnT V W' B ad t l :=
  ⟨h.1.keep hb, h.2.1.trans (hb.mono (Nat.le_trans hV h.2.1.size)), fun b hl hne => (hb.block b (Nat.lt_of_lt_of_le hl h.2.1.size)).trans (h.2.2 b hl hne)⟩
theorem OwnT.own {V W : World} {B C : Nat} {ad ad' : Option Addr} {t t' : TypeId} {l l' : List Int} (h : OwnT V W B ad t l) (h' : OwnI V C ad' t' l') (hne : ∀ a a' : Addr, ad = some a → ad' = some a' → a'.block ≠ a.block) : OwnI W C ad' t' l' := by
  rcases h' with h' | ⟨g, cur, ha, h1, hg, h2⟩
  · exact .inl h'
  · exact .inr ⟨g, cur, ha, h1, h.blk hg (fun a e => hne a _ e ha), h2⟩
theorem OwnI.mono {w : World} {B C : Nat} {ad : Option Addr} {t : TypeId} {l : List Int} (h : OwnI w B ad t l) (hC : C ≤ B) : OwnI w C ad t l := by
  rcases h with h | ⟨g, cur, ha, h1, h2⟩
  · exact .inl h
  · exact .inr ⟨g, cur, ha, by omega, h2⟩
/-- two rows, of which the second was made behind the first -/
theorem OwnI.apart {V W : World} {B : Nat} {ad ad' : Option Addr} {t t' : TypeId} {l l' : List Int} (h : OwnI V B ad t l) (h' : OwnI W V.heap.size ad' t' l') : ∀ a a' : Addr, ad = some a → ad' = some a' → a'.block ≠ a.block := by
  intro a a' e e'
  rcases h with h | ⟨g, cur, ha, h1, hg, _⟩
  · rw [h.2] at e; cases e
  rcases h' with h' | ⟨g', cur', ha', h1', _⟩
  · rw [h'.2] at e'; cases e'
  rw [ha] at e; rw [ha'] at e'
  cases e; cases e'
  have := hg.lt
  show g' ≠ g
  omega
theorem ints_set (l : List Int) (i : Nat) (u : Int) : ints (l.set i u) = (ints l).set i (.int .i64 u) := by unfold ints; rw [List.map_set]
theorem OwnT.at {V W : World} {B : Nat} {ad : Option Addr} {t : TypeId} {l : List Int} (h : OwnT V W B ad t l) {i : Nat} {u : Int} (hi : l[i]? = some u) :
    ∃ g, ad = some ⟨g, 0, none⟩ ∧ B ≤ g ∧ W.cell? ⟨g, i, none⟩ = some (.int .i64 u) ∧ W.frozen? ⟨g, i, none⟩ = false ∧ ∀ u', OwnT V (W.setCell ⟨g, i, none⟩ (.int .i64 u')) B ad t (l.set i u') := by
  have hil := (List.getElem?_eq_some_iff.1 hi).1
  rcases h.1 with h0 | ⟨g, cur, ha, h1, hg, hn, hm, ht⟩
  · rw [h0.1] at hil; simp at hil
  have hc : cur[i]? = some (.int .i64 u) := by
    have : (cur.toList.take l.length)[i]? = some (.int .i64 u) := by rw [ht]; unfold ints; rw [List.getElem?_map, hi]; rfl
    rw [List.getElem?_take, if_pos hil] at this
    rw [← Array.getElem?_toList]; exact this
  refine ⟨g, ha, h1, hg.cell hc, hg.free i, fun u' => ⟨.inr ⟨g, _, ha, h1, hg.store i (.int .i64 u'), by simpa using hn, by simpa using hm, ?_⟩, h.2.1.setCell (p := ⟨g, i, none⟩) h1 _, fun b hb hne => ?_⟩⟩
  · rw [List.length_set, ints_set, ← ht]
    simp [Array.set!_eq_setIfInBounds, List.take_set]
  · have hbg : b ≠ g := hne _ ha
    exact (Below.heap_setCell _ _ _ _ (by show b ≠ g; exact hbg)).trans (h.2.2 b hb hne)
end Go.Proofs.YtadjnfpomjopkaaGreat

namespace Go.Proofs.YtadjnfpomjopkaaGreat
open Go.RowKit
theorem setV_len : ∀ (A N l : List Int), (setV A N l).length = l.length
  | [], _, l => by cases ‹List Int› <;> rfl
  | _ :: _, [], _ => rfl
  | a :: A, n :: N, l => by
    unfold setV
    rw [setV_len A N]
    split <;> simp
theorem setV_step : ∀ (A N l : List Int) {j : Nat} {a n : Int}, A[j]? = some a → N[j]? = some n →
    setV (A.take (j + 1)) (N.take (j + 1)) l = if inM a l.length = true then (setV (A.take j) (N.take j) l).set a.toNat n else setV (A.take j) (N.take j) l
  | [], _, _, j, _, _, hA, _ => by cases hA
  | _ :: _, [], _, j, _, _, _, hN => by cases hN
  | a' :: A, n' :: N, l, 0, a, n, hA, hN => by
    simp only [List.getElem?_cons_zero, Option.some.injEq] at hA hN
    subst hA hN
    simp only [List.take_succ_cons, List.take_zero]
    rfl
  | a' :: A, n' :: N, l, j + 1, a, n, hA, hN => by
    simp only [List.getElem?_cons_succ] at hA hN
    simp only [List.take_succ_cons]
    have h := setV_step A N (if inM a' l.length = true then l.set a'.toNat n' else l) hA hN
    have hl : (if inM a' l.length = true then l.set a'.toNat n' else l).length = l.length := by split <;> simp
    rw [hl] at h
    exact h
end Go.Proofs.YtadjnfpomjopkaaGreat
