/- Rows of statements: append of a slice of statements; slices.Clone; warderref48.Few. -/
import Derived.Test.YtjmggphnngffjaaStmIn
import Derived.Test.YtjmggphnngffjaaKit
import Derived.Laws.OwnMore

namespace Go.Proofs.Ytjmggphnngffjaa
open Go.RowKit

theorem run_app_none {P : Program} {w : World} {base : Nat} (t ty e : TypeId) (i : TypeInfo) (size cap0 : Nat) (ht : P.underlying t = some (.slice e)) (hi : P.info? e = some i)
    (v : Value) (n : Nat) (xs : List Value) (hown : w.ownsRow base e size v n xs) :
    (Builtin.append_ #[t, t] ty #[v, .slice none 0 cap0]).run P w = .ok v w := by
  rcases hown.2 with ⟨rfl, rfl⟩ | ⟨g, cap, cur, rfl, _, _, hnc, _⟩
  · simp [Builtin.append_, run_underlying ht, sizeOf, typeInfo, hi, Builtin.lenOf, Builtin.firstCells]
  · simp [Builtin.append_, run_underlying ht, sizeOf, typeInfo, hi, Builtin.lenOf, Builtin.firstCells, hnc, storeCells]

def smZero : Value := .agg #[.int .i64 0, .string ⟨#[]⟩, .int .i64 0, .int .i64 0, .int .i64 0, .slice none 0 0, .string ⟨#[]⟩, .string ⟨#[]⟩, .string ⟨#[]⟩, .int .i64 0, .slice none 0 0, .bool false]
theorem info_stmt : (Try.prog.info? 31).map (fun i => (i.zero, i.size, i.bytes)) = some (some smZero, 12, 160) := by kernel_rfl
/-- no cell of a statement is a struct -/
def SmOne (x : Sm) : Prop := x.nv.oneCell' = true ∧ x.iv.oneCell' = true
theorem smCells_one {x : Sm} (h : SmOne x) : ∀ u ∈ smCells x, u.oneCell' = true := by
  intro u hu
  simp only [smCells, List.mem_cons, List.not_mem_nil, or_false] at hu
  rcases hu with rfl | rfl | rfl | rfl | rfl | rfl | rfl | rfl | rfl | rfl | rfl | rfl <;> first | rfl | exact h.1 | exact h.2
theorem smFlat_one {L : List Sm} (h : ∀ x ∈ L, SmOne x) : ∀ u ∈ smFlat L, u.oneCell' = true := by
  intro u hu
  obtain ⟨x, hx, hu⟩ := List.mem_flatMap.1 hu
  exact smCells_one (h x hx) u hu
theorem SmOK.one {w : World} {x : Sm} (h : SmOK w x) : SmOne x := by
  obtain ⟨a, b, e, _⟩ := h.1
  obtain ⟨c, d, f, _⟩ := h.2
  exact ⟨by rw [e]; rfl, by rw [f]; rfl⟩

/-- 'out = append(out, l...)' of statements that lie anywhere -/
theorem appS {ops : Array Oper} {rest : List Oper} {o : Oper} {a : Act} {Q : Exit → Act → World → Prop} (w : World) (hgd : o.guard = none) (s x : Operand)
    (ho : o.op = .call { callee := .builtin .append, args := #[s, x], argTypes := #[22, 22] })
    (base : Nat) (v : Value) (n : Nat) (xs : List Value) (hs : a.eval s = v) (hown : w.ownsRow base 31 12 v n xs)
    (vx : Value) (L : List Sm) (hx : a.eval x = vx) (hr : SmIn w vx L) (h1 : ∀ y ∈ L, SmOne y)
    (hbytes : n + L.length ≤ 100000) (hbase : base ≤ w.heap.size)
    (h : ∀ v' w', w'.ownsRow base 31 12 v' (n + L.length) (xs ++ smFlat L) → Below base w w' → wpList Try.prog ops Q rest (a.put o.dst v') w') :
    wpList Try.prog ops Q (o :: rest) a w := by
  obtain ⟨i, hi, hz0, hz1, hz2⟩ := info_parts info_stmt
  have ht : Try.prog.underlying 22 = some (.slice 31) := Try.underlying22
  have h63 : n + L.length ≤ maxLen := by unfold maxLen; omega
  have hlen := smFlat_len L
  have key : ∀ ad m c, vx = .slice (some ad) m c → L.length = m → (∀ j u, (smFlat L)[j]? = some u → w.cell? (ad.add j) = some u) → wpList Try.prog ops Q (o :: rest) a w := by
    intro ad m c hv hm hnews
    refine wpList_append_own w hgd s x _ ho base _ i smZero 12 160 ht hi hz0 hz1 hz2 rfl (by decide) v n xs hs hown ad m c (smFlat L) (hx.trans hv) (by omega) hnews (smFlat_one h1) (by omega) (by omega) hbase ?_
    intro v' w' ho' hg _
    exact h v' w' (by rw [hm]; exact ho') (below_of_grown hg (fun k hk => (hown.lt k hk).1) hbase)
  obtain ⟨ad, cap, hv, _, hr⟩ := hr
  rcases hr with hn | ⟨b, off, rfl, _, hc⟩
  · subst hn
    cases ad with
    | some ad => exact key ad 0 cap hv rfl (by intro j u hu; simp [smFlat] at hu)
    | none =>
      refine wpList_plain hgd fun K hK => ?_
      have hrun := run_app_none (P := Try.prog) (w := w) (base := base) 22 o.type _ i 12 cap ht hi v n xs hown
      have hx' : a.eval x = .slice none 0 cap := hx.trans hv
      unfold Oper.wp
      simp [execOp, ho, resolve, invoke, builtin, hs, hx', hrun, Result.andThen]
      exact hK _ _ (h v w (by simpa [smFlat] using hown) (Below.refl _ _))
  · refine key ⟨b, off, none⟩ _ cap hv rfl (fun j u hu => ?_)
    have hj := (List.getElem?_eq_some_iff.1 hu).1
    have e : (⟨b, off, none⟩ : Addr).add j = ⟨b, off + j, none⟩ := by unfold Addr.add; split <;> simp_all
    have hk : j / 12 < L.length := by omega
    have hy := List.getElem?_eq_getElem hk
    have c := hc (j / 12) _ hy (j % 12) (Nat.mod_lt _ (by decide))
    have f := smFlat_get L (j / 12) (j % 12) _ hy (Nat.mod_lt _ (by decide))
    rw [show j / 12 * 12 + j % 12 = j by omega] at f
    rw [Nat.add_assoc, show j / 12 * 12 + j % 12 = j by omega] at c
    rw [e, c, ← f, hu]

set_option maxRecDepth 100000 in
set_option maxHeartbeats 1000000 in
theorem clone_any {w : World} {v : Value} {L : List Sm} (h : SmIn w v L) (h1 : ∀ y ∈ L, SmOne y) (hl : L.length ≤ 100000) :
    Calls Try.prog 29 #[v] w fun e w' => ∃ v', e = .returned v' ∧ w'.ownsRow w.heap.size 31 12 v' L.length (smFlat L) ∧ Below w.heap.size w w' := by
  have hb0 : Below w.heap.size w (w.alloc (.cells #[] 31)) := (Below.refl _ w).alloc (Nat.le_refl _) _
  have own0 : (w.alloc (.cells #[] 31)).ownsRow w.heap.size 31 12 (.slice (some ⟨w.heap.size, 0, none⟩) 0 0) 0 [] := World.ownsRow_lit w #[] 0 (Nat.le_refl _) (Nat.zero_le _) rfl
  have r1 := h.keep hb0
  have HB0 := Lib.hid hb0
  obtain ⟨ad, cap, hv⟩ := h.len
  subst hv
  clear hb0
  cases ad with
  | none =>
    have hL : L = [] := by
      obtain ⟨ad, cap2, he, _, hr⟩ := h
      rcases hr with hr | ⟨g, off, ha, _⟩
      · exact hr
      · simp only [Value.slice.injEq] at he
        obtain ⟨e1, _⟩ := he
        subst e1
        cases ha
    have hc0 : cap = 0 := by
      obtain ⟨ad, cap2, he, hz, _⟩ := h
      simp only [Value.slice.injEq] at he
      rw [he.2.2]; exact hz.1 he.1.symm
    subst hL
    subst hc0
    have hnil : ∀ W : World, Sem.run Try.prog (binOp .eql 22 (.slice none 0 0) (.slice none 0 0)) W = .ok (.bool true) W := fun W => by rfl
    clear h h1 hl own0 r1
    go_enter Try.func29, Try.ntmps29
    go_wp2
    go_ret
    exact ⟨_, rfl, World.ownsRow_nil _ _ _ _, Below.refl _ _⟩
  | some ad =>
    have hnil : ∀ W : World, Sem.run Try.prog (binOp .eql 22 (.slice (some ad) L.length cap) (.slice none 0 0)) W = .ok (.bool false) W := fun W => by rfl
    clear h
    go_enter Try.func29, Try.ntmps29
    go_wp2_with (first
      | (at_builtin; refine appS _ rfl _ _ rfl w.heap.size _ 0 [] rfl (by exact own0) _ _ rfl r1 h1 (by omega) (by simp) ?_; clear own0; intro v' w2 hown2 hb2)
      | fail)
    rw [Nat.zero_add, List.nil_append] at hown2
    have HO := Lib.hid (And.intro hown2 (HB0.out.trans hb2))
    clear hown2 hb2
    go_wp2
    go_ret
    exact ⟨_, rfl, HO.out.1, HO.out.2⟩

end Go.Proofs.Ytjmggphnngffjaa
