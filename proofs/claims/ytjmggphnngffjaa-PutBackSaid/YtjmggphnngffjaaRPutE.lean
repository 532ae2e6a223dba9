/- warderref24: Put. -/
import Derived.Test.YtjmggphnngffjaaRPutD
namespace Go.Proofs.Ytjmggphnngffjaa
open Go.RowKit Go.Shelf

theorem bitZ_zero (a : Int) : bitZ a = 0 ↔ (a < 0 ∨ 30 < a) := by
  constructor
  · intro h
    apply Classical.byContradiction
    intro hn
    have h1 : 0 ≤ a ∧ a ≤ 30 := by omega
    have h2 := hasB_putZ 0 a a true
    rw [if_pos h1, if_pos rfl] at h2
    rw [show putZ 0 a true = 0 from h] at h2
    unfold hasB hasN at h2
    rw [if_pos h1] at h2
    simp at h2
  · intro h
    unfold bitZ
    rw [putZ_out _ _ _ h]
    decide

/-- how Put's list lies while it is built -/
structure RS (w : World) (v1 v2 out : Value) (zs : List Zn) (W : World) : Prop where
  z : Blk W w.heap.size #[v1, v2] 45
  zones : ZonesAt W (w.heap.size + 1) out zs
  low : Below w.heap.size w W
  lt : w.heap.size < W.heap.size
theorem RS.below {w W W' : World} {v1 v2 out : Value} {zs : List Zn} (h : RS w v1 v2 out zs W) (hb : Below W.heap.size W W') : RS w v1 v2 out zs W' :=
  ⟨h.z.keep hb, h.zones.below hb, h.low.trans (hb.mono h.low.size), Nat.lt_of_lt_of_le h.lt hb.size⟩
/-- one zone more -/
theorem RS.run {w W : World} {v1 v2 out c1 c2 : Value} {zs : List Zn} {z : Zn} {b : Nat} (h : RS w v1 v2 out zs W) (hz : ZoneAt W b c1 c2 z.1 z.2) (hb : w.heap.size + 1 ≤ b) (hl : zs.length ≤ 100000) (ty : TypeId) :
    ∃ ad cap w', (Builtin.append_ #[41, 41] ty #[out, .slice (some ⟨W.heap.size, 0, none⟩) 1 1]).run Try.prog (W.alloc (.cells #[c1, c2] 45)) = .ok (.slice ad (zs.length + 1) cap) w' ∧ RS w v1 v2 (.slice ad (zs.length + 1) cap) (zs ++ [z]) w' ∧
      (∀ (b' : Nat) (e : TypeId) (sz : Nat) (u : Value) (n : Nat) (xs : List Value), W.ownsRow b' e sz u n xs → 45 ≠ e → w'.ownsRow b' e sz u n xs) := by
  have hba : Below W.heap.size W (W.alloc (.cells #[c1, c2] 45)) := (Below.refl _ W).alloc (Nat.le_refl _) _
  have ha := h.below hba
  have hz2 := hz.below hba
  obtain ⟨ps, hpl, hr, hzz⟩ := ha.zones
  have o1 : c1.oneCell' = true := owns_one2 hz.1
  have o2 : c2.oneCell' = true := owns_one1 hz.2
  have hrd : RdK (W.alloc (.cells #[c1, c2] 45)) 2 (.slice (some ⟨W.heap.size, 0, none⟩) 1 1) 1 [c1, c2] := by
    refine ⟨_, _, rfl, rfl, .inr ⟨W.heap.size, 0, rfl, by simp, fun t x hx => ?_⟩⟩
    rw [World.cell?_alloc_at _ _ _ _ (by simp)]
    simpa using hx
  obtain ⟨v', w', hrun, ho, hg⟩ := appK_run (P := Try.prog) _ 41 ty 45 (.agg #[.slice none 0 0, .slice none 0 0]) 2 48 (w.heap.size + 1) Try.underlying41 info_zone rfl (by decide) (by decide) out zs.length (zcells ps) hr _ 1 [c1, c2] hrd (by simp [o1, o2]) (by omega) (by have := ha.lt; omega)
  obtain ⟨ad, cap, hv⟩ := owns_len ho
  subst hv
  refine ⟨ad, cap, w', hrun, ⟨ha.z.grown hg ?_, ZonesAt.app hpl hr hzz ⟨owns_mono hz2.1 hb, owns_mono hz2.2 hb⟩ ho hg, ha.low.grown hg ha.low.size (fun k hk => by have := (hr.lt k hk).1; omega), Nat.lt_of_lt_of_le ha.lt hg.size⟩, fun b' e sz u n xs hu he => owns_beside hr (owns_below hu hba) he hg⟩
  intro e
  have := (hr.lt _ e).1
  omega

theorem ZonesAt.lit {W : World} {c1 c2 : Value} {z : Zn} {b base : Nat} (hz : ZoneAt W b c1 c2 z.1 z.2) (hb : base ≤ b) (hw : base ≤ W.heap.size) : ZonesAt (W.alloc (.cells #[c1, c2] 45)) base (.slice (some ⟨W.heap.size, 0, none⟩) 1 1) [z] := by
  have hba : Below W.heap.size W (W.alloc (.cells #[c1, c2] 45)) := (Below.refl _ W).alloc (Nat.le_refl _) _
  have hz2 := hz.below hba
  refine ⟨[(c1, c2)], rfl, ?_, ?_⟩
  · exact owns_mono (World.ownsRow_lit W #[c1, c2] 1 (Nat.le_refl _) (by decide) rfl) hw
  · intro i p y h1 h2
    have hi : i = 0 := by have := (List.getElem?_eq_some_iff.1 h1).1; simp at this; omega
    subst hi
    simp only [List.getElem?_cons_zero, Option.some.injEq] at h1 h2
    subst h1; subst h2
    exact ⟨owns_mono hz2.1 hb, owns_mono hz2.2 hb⟩

end Go.Proofs.Ytjmggphnngffjaa
