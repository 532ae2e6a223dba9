/- Slices that read wherever they lie, and appends of them. -/
import Derived.Test.YtgmijfmbbaipfaaDoorKit
import Derived.Below
namespace Go.Proofs.YtgmijfmbbaipfaaDoor
open Go.RowKit

theorem wpList_append_known {P : Program} (w : World) {ops : Array Oper} {rest : List Oper} {o : Oper} {a : Act} {Q : Exit → Act → World → Prop} (hgd : o.guard = none) (s x : Operand) (t tn : TypeId)
    (ho : o.op = .call { callee := .builtin .append, args := #[s, x], argTypes := #[t, tn] }) (vs vx : Value) (hs : a.eval s = vs) (hx : a.eval x = vx)
    (v' : Value) (w' : World) (hr : (Builtin.append_ #[t, tn] o.type #[vs, vx]).run P w = .ok v' w') (h : wpList P ops Q rest (a.put o.dst v') w') : wpList P ops Q (o :: rest) a w := by
  refine wpList_plain hgd fun _ hK => ?_
  unfold Oper.wp execOp
  simp only [ho, resolve, invoke, builtin, Sem.run_bind, Sem.run_pure, Result.andThen_ok, List.map_toArray, List.map_cons, List.map_nil, hs, hx, hr]
  exact hK _ _ h

/-- a slice of elements of k cells that reads as a list, of whatever memory -/
def RdK (w : World) (k : Nat) (v : Value) (n : Nat) (xs : List Value) : Prop :=
  ∃ ad cap, v = .slice ad n cap ∧ xs.length = n * k ∧ (n = 0 ∨ ∃ b off, ad = some ⟨b, off, none⟩ ∧ b < w.heap.size ∧ ∀ t x, xs[t]? = some x → w.cell? ⟨b, off + t, none⟩ = some x)
theorem RdK.len {w : World} {k : Nat} {v : Value} {n : Nat} {xs : List Value} (h : RdK w k v n xs) : ∃ ad cap, v = .slice ad n cap := by
  obtain ⟨ad, cap, hv, _⟩ := h; exact ⟨ad, cap, hv⟩
theorem RdK.below {w w' : World} {k : Nat} {v : Value} {n : Nat} {xs : List Value} (h : RdK w k v n xs) (hb : Below w.heap.size w w') : RdK w' k v n xs := by
  obtain ⟨ad, cap, hv, hl, h⟩ := h
  refine ⟨ad, cap, hv, hl, ?_⟩
  rcases h with h | ⟨b, off, ha, hg, hc⟩
  · exact .inl h
  · exact .inr ⟨b, off, ha, Nat.lt_of_lt_of_le hg hb.size, fun t x hx => (hb.cell (p := ⟨b, off + t, none⟩) hg).trans (hc t x hx)⟩
theorem RdK.of_owns {w : World} {base : Nat} {e : TypeId} {k : Nat} {v : Value} {n : Nat} {xs : List Value} (h : w.ownsRow base e k v n xs) : RdK w k v n xs := by
  have hl := h.1
  rcases h.2 with ⟨rfl, h0⟩ | ⟨g, cap, cur, rfl, hb, hg, hn, hm, hs, ht⟩
  · exact ⟨none, 0, by rw [h0], hl, .inl h0⟩
  · refine ⟨_, cap, rfl, hl, .inr ⟨g, 0, rfl, (Array.getElem?_eq_some_iff.1 hg).1, fun t x hx => ?_⟩⟩
    have hc := World.ownsRow.cellAt h t (by have := (List.getElem?_eq_some_iff.1 hx).1; omega)
    rw [Nat.zero_add, hc, hx]
theorem RdK.at {w : World} {k : Nat} {ad : Option Addr} {n m cap : Nat} {xs : List Value} (h : RdK w k (.slice ad m cap) n xs) (hn : 0 < n) : ∃ b off, ad = some ⟨b, off, none⟩ ∧ b < w.heap.size ∧ ∀ t x, xs[t]? = some x → w.cell? ⟨b, off + t, none⟩ = some x := by
  obtain ⟨ad', cap', hv, hl, h⟩ := h
  cases hv
  rcases h with h | h
  · omega
  · exact h

theorem append_nothing {P : Program} {w : World} {base : Nat} (t ty e : TypeId) (i : TypeInfo) (size cap0 : Nat) (ht : P.underlying t = some (.slice e)) (hi : P.info? e = some i)
    (v : Value) (n : Nat) (xs : List Value) (hown : w.ownsRow base e size v n xs) :
    (Builtin.append_ #[t, t] ty #[v, .slice none 0 cap0]).run P w = .ok v w := by
  rcases hown.2 with ⟨rfl, rfl⟩ | ⟨g, cap, cur, rfl, _, _, hnc, _⟩
  · simp [Builtin.append_, run_underlying ht, sizeOf, typeInfo, hi, Builtin.lenOf, Builtin.firstCells]
  · simp [Builtin.append_, run_underlying ht, sizeOf, typeInfo, hi, Builtin.lenOf, Builtin.firstCells, hnc, storeCells]

/-- append of a row that lies anywhere -/
theorem appK_run {P : Program} (w : World) (t ty e : TypeId) (z : Value) (size bytes base : Nat) (ht : P.underlying t = some (.slice e)) (hinfo : (P.info? e).map (fun i => (i.zero, i.size, i.bytes)) = some (some z, size, bytes))
    (hzs : z.cells.size = size) (hsz : 0 < size) (hby : 0 < bytes) (v : Value) (n : Nat) (xs : List Value) (hown : w.ownsRow base e size v n xs) (vx : Value) (m : Nat) (news : List Value) (hr : RdK w size vx m news)
    (h1 : ∀ u ∈ news, u.oneCell' = true) (hbytes : (n + m) * bytes ≤ 140737488355328) (hbase : base ≤ w.heap.size) :
    ∃ v' w', (Builtin.append_ #[t, t] ty #[v, vx]).run P w = .ok v' w' ∧ w'.ownsRow base e size v' (n + m) (xs ++ news) ∧ w.grownBy w' v.ownBlock := by
  obtain ⟨i, hi, hz0, hz1, hz2⟩ := info_parts hinfo
  have h63 : n + m ≤ maxLen := by
    have : (n + m) * 1 ≤ (n + m) * bytes := Nat.mul_le_mul_left _ hby
    unfold maxLen; omega
  obtain ⟨ad, cap, rfl, hl, hs⟩ := hr
  have key : ∀ ad', ad = some ad' → (∀ j u, news[j]? = some u → w.cell? (ad'.add j) = some u) → ∃ v' w', (Builtin.append_ #[t, t] ty #[v, .slice ad m cap]).run P w = .ok v' w' ∧ w'.ownsRow base e size v' (n + m) (xs ++ news) ∧ w.grownBy w' v.ownBlock := by
    rintro ad' rfl hc
    obtain ⟨v', w', h2, h3, h4, _⟩ := run_append_own (P := P) w base t ty e i z size bytes ht hi hz0 hz1 hz2 hzs hsz v n xs hown ad' m cap news hl hc h1 h63 hbytes hbase
    exact ⟨v', w', h2, h3, h4⟩
  rcases hs with h0 | ⟨b, off, ha, _, hc⟩
  · subst h0
    have hn : news = [] := List.eq_nil_of_length_eq_zero (by omega)
    subst hn
    cases ad with
    | none => exact ⟨v, w, append_nothing t ty e i size cap ht hi v n xs hown, by simpa using hown, ⟨rfl, rfl, rfl, Nat.le_refl _, fun _ _ _ => rfl⟩⟩
    | some ad' => exact key ad' rfl (fun j u hu => by simp at hu)
  · exact key _ ha (fun j u hu => by rw [Addr.add_lit]; exact hc j u hu)

theorem step_append_known {P : Program} {ops : Array Oper} {o : Oper} {a : Act} {w : World} {K : Act → World → Prop} {Q : Exit → Act → World → Prop} {E : Prop}
    (hg : o.guard = none) (s x : Operand) (t u : TypeId) (hop : o.op = Op.call { callee := Callee.builtin Builtin.append, args := #[s, x], argTypes := #[t, u] })
    (vs vx : Value) (hs : a.eval s = vs) (hx : a.eval x = vx) (v' : Value) (w' : World) (hr : (Builtin.append_ #[t, u] o.type #[vs, vx]).run P w = .ok v' w') (hK : K (a.put o.dst v') w') :
    if Region.wanted o (yielded ops a.tmps) = true then Oper.wp P o a w K Q else E := by
  have hw : Region.wanted o (yielded ops a.tmps) = true := by simp [Region.wanted, hg]
  rw [if_pos hw]
  unfold Oper.wp
  simp [execOp, hop, resolve, invoke, builtin, hs, hx, hr, Result.andThen]
  exact hK

theorem RdK.zero (w : World) (k : Nat) (X : Option Addr) (c : Nat) : RdK w k (.slice X 0 c) 0 [] := ⟨X, c, rfl, by simp, .inl rfl⟩
theorem RdK.take {w : World} {k n cap i : Nat} {ad : Option Addr} {xs : List Value} (h : RdK w k (.slice ad n cap) n xs) (hi : i ≤ n) : RdK w k (.slice ad i cap) i (xs.take (i * k)) := by
  obtain ⟨ad', cap', hv, hl, h⟩ := h
  cases hv
  have hm : i * k ≤ n * k := Nat.mul_le_mul_right _ hi
  refine ⟨ad, cap, rfl, by rw [List.length_take]; omega, ?_⟩
  by_cases h0 : i = 0
  · exact .inl h0
  · obtain ⟨b, off, ha, hb, hc⟩ := h.resolve_left (by omega)
    refine .inr ⟨b, off, ha, hb, fun t x hx => hc t x ?_⟩
    rw [List.getElem?_take] at hx
    split at hx
    · exact hx
    · cases hx
theorem RdK.drop {w : World} {k n cap i b off : Nat} {xs : List Value} (h : RdK w k (.slice (some ⟨b, off, none⟩) n cap) n xs) (hn : 0 < n) (c : Nat) : RdK w k (.slice (some ⟨b, off + i * k, none⟩) (n - i) c) (n - i) (xs.drop (i * k)) := by
  obtain ⟨ad', cap', hv, hl, h⟩ := h
  cases hv
  refine ⟨_, _, rfl, by rw [List.length_drop, hl, Nat.sub_mul], ?_⟩
  obtain ⟨b', off', ha, hb, hc⟩ := h.resolve_left (by omega)
  cases ha
  refine .inr ⟨b, _, rfl, hb, fun t x hx => ?_⟩
  rw [List.getElem?_drop] at hx
  rw [Nat.add_assoc]
  exact hc _ _ hx

theorem step_appX {P : Program} {ops : Array Oper} {o : Oper} {a : Act} {w : World} {K : Act → World → Prop} {Q : Exit → Act → World → Prop} {E : Prop}
    (hg : o.guard = none) (s x : Operand) (t : TypeId) (hop : o.op = Op.call { callee := Callee.builtin Builtin.append, args := #[s, x], argTypes := #[t, t] })
    (e : TypeId) (z : Value) (size bytes base : Nat) (ht : P.underlying t = some (.slice e)) (hinfo : (P.info? e).map (fun i => (i.zero, i.size, i.bytes)) = some (some z, size, bytes))
    (hzs : z.cells.size = size) (hsz : 0 < size) (hby : 0 < bytes) (v : Value) (n : Nat) (xs : List Value) (hs : a.eval s = v) (hown : w.ownsRow base e size v n xs) (m : Nat) (news : List Value) (hx : ∃ vx, a.eval x = vx ∧ RdK w size vx m news)
    (h1 : ∀ u ∈ news, u.oneCell' = true) (hbytes : (n + m) * bytes ≤ 140737488355328) (hbase : base ≤ w.heap.size)
    (h : ∀ v' w', w'.ownsRow base e size v' (n + m) (xs ++ news) → w.grownBy w' v.ownBlock → K (a.put o.dst v') w') :
    if Region.wanted o (yielded ops a.tmps) = true then Oper.wp P o a w K Q else E := by
  obtain ⟨vx, hvx, hr⟩ := hx
  obtain ⟨v', w', hrun, ho, hgr⟩ := appK_run (P := P) w t o.type e z size bytes base ht hinfo hzs hsz hby v n xs hown vx m news hr h1 hbytes hbase
  exact step_append_known hg s x t t hop v vx hs hvx v' w' hrun (h v' w' ho hgr)

theorem wpList_appX {P : Program} (w : World) {ops : Array Oper} {rest : List Oper} {o : Oper} {a : Act} {Q : Exit → Act → World → Prop} (hgd : o.guard = none) (s x : Operand) (t : TypeId)
    (ho : o.op = .call { callee := .builtin .append, args := #[s, x], argTypes := #[t, t] })
    (e : TypeId) (z : Value) (size bytes base : Nat) (ht : P.underlying t = some (.slice e)) (hinfo : (P.info? e).map (fun i => (i.zero, i.size, i.bytes)) = some (some z, size, bytes))
    (hzs : z.cells.size = size) (hsz : 0 < size) (hby : 0 < bytes) (v : Value) (n : Nat) (xs : List Value) (hs : a.eval s = v) (hown : w.ownsRow base e size v n xs) (m : Nat) (news : List Value) (hx : ∃ vx, a.eval x = vx ∧ RdK w size vx m news)
    (h1 : ∀ u ∈ news, u.oneCell' = true) (hbytes : (n + m) * bytes ≤ 140737488355328) (hbase : base ≤ w.heap.size)
    (h : ∀ v' w', w'.ownsRow base e size v' (n + m) (xs ++ news) → w.grownBy w' v.ownBlock → wpList P ops Q rest (a.put o.dst v') w') : wpList P ops Q (o :: rest) a w := by
  obtain ⟨vx, hvx, hr⟩ := hx
  obtain ⟨v', w', hrun, ho', hgr⟩ := appK_run (P := P) w t o.type e z size bytes base ht hinfo hzs hsz hby v n xs hown vx m news hr h1 hbytes hbase
  exact wpList_append_known w hgd s x t t ho v vx hs hvx v' w' hrun (h v' w' ho' hgr)

end Go.Proofs.YtgmijfmbbaipfaaDoor
