/- Contracts of shrink.List, and of warderref48.Shrink. -/
import Derived.Test.YtjmggphnngffjaaShr2
namespace Go.Proofs.Ytjmggphnngffjaa
open Go.RowKit

set_option maxRecDepth 100000 in
set_option maxHeartbeats 1000000 in
theorem list_few {w : World} {v : Value} {L : List Sm} (h : SmIn w v L) (h1 : ∀ y ∈ L, SmOne y) (hl : L.length ≤ 10000) {p q : Nat} {kind n : Int} (hp : Blk w p #[.int .i64 kind] 3) (hq : Blk w q #[.int .i64 n] 3) :
    Calls Try.prog 8 #[v, .func (.func 9) #[] #[.pointer (some ⟨p, 0, none⟩), .pointer (some ⟨q, 0, none⟩)]] w fun e w' => ∃ v', e = .returned v' ∧ SmIn w' v' (shrinkS (fewB kind n) L) ∧ Below w.heap.size w w' := by
  have HS := Lib.hid (shrunk_few h h1 hl hp hq)
  obtain ⟨ad, cap, hv⟩ := h.len
  subst hv
  have hnil : ∀ W : World, Sem.run Try.prog (binOp .eql 32 (.func (.func 9) #[] #[.pointer (some ⟨p, 0, none⟩), .pointer (some ⟨q, 0, none⟩)]) .nilFunc) W = .ok (.bool false) W := fun W => by rfl
  clear h h1 hl hp hq
  go_enter Try.func8, Try.ntmps8
  go_wp2_with fail
  refine HS.out.mono ?_
  rintro e w1 ⟨v1, rfl, hi, hb⟩
  have HF := Lib.hid (And.intro hi hb)
  obtain ⟨ad1, cap1, hv1⟩ := hi.len
  subst hv1
  clear hi hb
  go_wp2
  go_ret
  exact ⟨_, rfl, HF.out.1, HF.out.2⟩

set_option maxRecDepth 100000 in
set_option maxHeartbeats 1000000 in
theorem list_nil {w : World} {v : Value} {L : List Sm} (h : SmIn w v L) (h1 : ∀ y ∈ L, SmOne y) (hl : L.length ≤ 10000) :
    Calls Try.prog 8 #[v, .nilFunc] w fun e w' => ∃ v', e = .returned v' ∧ SmIn w' v' L ∧ Below w.heap.size w w' := by
  have HS := Lib.hid (clone_any h h1 (by omega))
  obtain ⟨ad, cap, hv⟩ := h.len
  subst hv
  have hnil : ∀ W : World, Sem.run Try.prog (binOp .eql 32 .nilFunc .nilFunc) W = .ok (.bool true) W := fun W => by rfl
  clear h h1 hl
  go_enter Try.func8, Try.ntmps8
  go_wp2_with fail
  refine HS.out.mono ?_
  rintro e w1 ⟨v1, rfl, hr, hb⟩
  have HF := Lib.hid (And.intro (SmIn.of_row hr) hb)
  obtain ⟨ad1, cap1, hv1⟩ := owns_len hr
  subst hv1
  clear hr hb
  go_wp2
  go_ret
  exact ⟨_, rfl, HF.out.1, HF.out.2⟩

/-- 'append([]T{}, l...)' in a region that draws -/
theorem stepS {ops : Array Oper} {o : Oper} {a : Act} {w : World} {K : Act → World → Prop} {Q : Exit → Act → World → Prop} {E : Prop} (hg : o.guard = none) (s x : Operand)
    (hop : o.op = .call { callee := .builtin .append, args := #[s, x], argTypes := #[22, 22] })
    (base : Nat) (v : Value) (n : Nat) (xs : List Value) (hs : a.eval s = v) (hown : w.ownsRow base 31 12 v n xs)
    (vx : Value) (L : List Sm) (hx : a.eval x = vx) (hr : SmIn w vx L) (h1 : ∀ y ∈ L, SmOne y)
    (hbytes : n + L.length ≤ 100000) (hbase : base ≤ w.heap.size)
    (hK : ∀ v' w', w'.ownsRow base 31 12 v' (n + L.length) (xs ++ smFlat L) → Below base w w' → K (a.put o.dst v') w') :
    if Region.wanted o (yielded ops a.tmps) = true then Oper.wp Try.prog o a w K Q else E := by
  have hw : Region.wanted o (yielded ops a.tmps) = true := by simp [Region.wanted, hg]
  rw [if_pos hw]
  obtain ⟨i, hi, hz0, hz1, hz2⟩ := info_parts info_stmt
  have ht : Try.prog.underlying 22 = some (.slice 31) := Try.underlying22
  have h63 : n + L.length ≤ maxLen := by unfold maxLen; omega
  have hlen := smFlat_len L
  have key : ∀ ad m c, vx = .slice (some ad) m c → L.length = m → (∀ j u, (smFlat L)[j]? = some u → w.cell? (ad.add j) = some u) → Oper.wp Try.prog o a w K Q := by
    intro ad m c hv hm hnews
    obtain ⟨v', w', hrun, r1, r2, _⟩ := run_append_own (P := Try.prog) w base 22 o.type _ i smZero 12 160 ht hi hz0 hz1 hz2 rfl (by decide) v n xs hown ad m c (smFlat L) (by omega) hnews (smFlat_one h1) (by omega) (by omega) hbase
    have hx' : a.eval x = .slice (some ad) m c := hx.trans hv
    unfold Oper.wp
    simp [execOp, hop, resolve, invoke, builtin, hs, hx', hrun, Result.andThen]
    exact hK v' w' (by rw [hm]; exact r1) (below_of_grown r2 (fun k hk => (hown.lt k hk).1) hbase)
  obtain ⟨ad, cap, hv, _, hr⟩ := hr
  rcases hr with hn | ⟨b, off, rfl, _, hc⟩
  · subst hn
    cases ad with
    | some ad => exact key ad 0 cap hv rfl (by intro j u hu; simp [smFlat] at hu)
    | none =>
      have hrun := run_app_none (P := Try.prog) (w := w) (base := base) 22 o.type _ i 12 cap ht hi v n xs hown
      have hx' : a.eval x = .slice none 0 cap := hx.trans hv
      unfold Oper.wp
      simp [execOp, hop, resolve, invoke, builtin, hs, hx', hrun, Result.andThen]
      exact hK v w (by simpa [smFlat] using hown) (Below.refl _ _)
  · refine key ⟨b, off, none⟩ _ cap hv rfl (fun j u hu => ?_)
    have hj := (List.getElem?_eq_some_iff.1 hu).1
    have e : (⟨b, off, none⟩ : Addr).add j = ⟨b, off + j, none⟩ := by unfold Addr.add; split <;> simp_all
    have hk : j / 12 < L.length := by omega
    have hy := List.getElem?_eq_getElem hk
    have c := hc (j / 12) _ hy (j % 12) (Nat.mod_lt _ (by decide))
    have f := smFlat_get L (j / 12) (j % 12) _ hy (Nat.mod_lt _ (by decide))
    rw [show j / 12 * 12 + j % 12 = j by omega] at f
    rw [Nat.add_assoc, show j / 12 * 12 + j % 12 = j by omega] at c
    rw [e, c, ← f, hu]

end Go.Proofs.Ytjmggphnngffjaa
