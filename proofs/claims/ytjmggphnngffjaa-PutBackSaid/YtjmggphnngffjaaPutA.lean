/- Rows of zones; the closure of put.Put, which tells a zone; what stays meanwhile. -/
import Derived.Test.YtjmggphnngffjaaZIn
import Derived.Test.YtjmggphnngffjaaIns
import Derived.Test.YtjmggphnngffjaaBlk
import Derived.Test.YtjmggphnngffjaaOwn
namespace Go.Proofs.Ytjmggphnngffjaa
open Go.RowKit

/-- a zone: its classes, its gaps -/
abbrev Zn := List (Int × Int) × List Int
def zcells (ps : List (Value × Value)) : List Value := ps.flatMap fun p => [p.1, p.2]
theorem zcells_len (ps : List (Value × Value)) : (zcells ps).length = ps.length * 2 := by
  induction ps with
  | nil => rfl
  | cons p r ih => simp only [zcells, List.flatMap_cons, List.length_append, List.length_cons, List.length_nil] at *; omega
theorem zcells_snoc (ps : List (Value × Value)) (p : Value × Value) : zcells (ps ++ [p]) = zcells ps ++ [p.1, p.2] := by simp [zcells]
theorem zcells_get (ps : List (Value × Value)) : ∀ (k : Nat) (p : Value × Value), ps[k]? = some p → (zcells ps)[k * 2]? = some p.1 ∧ (zcells ps)[k * 2 + 1]? = some p.2 := by
  induction ps with
  | nil => intro k p h; simp at h
  | cons q r ih =>
    intro k p h
    cases k with
    | zero => simp at h; subst h; simp [zcells]
    | succ k =>
      have := ih k p (by simpa using h)
      rw [show (k + 1) * 2 = k * 2 + 1 + 1 by omega]
      simpa [zcells] using this

/-- a row of zones in memory of its own -/
def ZonesAt (W : World) (base : Nat) (v : Value) (zs : List Zn) : Prop :=
  ∃ ps : List (Value × Value), ps.length = zs.length ∧ W.ownsRow base 45 2 v zs.length (zcells ps) ∧ ∀ (i : Nat) p z, ps[i]? = some p → zs[i]? = some z → ZoneAt W base p.1 p.2 z.1 z.2
theorem ZonesAt.nil (W : World) (base : Nat) : ZonesAt W base (.slice none 0 0) [] := ⟨[], rfl, World.ownsRow_nil _ _ _ _, fun i p z h => by simp at h⟩
theorem ZonesAt.below {W W' : World} {base : Nat} {v : Value} {zs : List Zn} (h : ZonesAt W base v zs) (hb : Below W.heap.size W W') : ZonesAt W' base v zs := by
  obtain ⟨ps, hl, hr, hz⟩ := h
  exact ⟨ps, hl, owns_below hr hb, fun i p z h1 h2 => (hz i p z h1 h2).below hb⟩
theorem ZonesAt.mono {W : World} {base b : Nat} {v : Value} {zs : List Zn} (h : ZonesAt W base v zs) (hb : b ≤ base) : ZonesAt W b v zs := by
  obtain ⟨ps, hl, hr, hz⟩ := h
  exact ⟨ps, hl, owns_mono hr hb, fun i p z h1 h2 => ⟨owns_mono (hz i p z h1 h2).1 hb, owns_mono (hz i p z h1 h2).2 hb⟩⟩
theorem ZonesAt.len {W : World} {base : Nat} {v : Value} {zs : List Zn} (h : ZonesAt W base v zs) : ∃ ad cap, v = .slice ad zs.length cap := by
  obtain ⟨ps, hl, hr, hz⟩ := h
  exact owns_len hr
theorem ZoneAt.grown {W W' : World} {base b n : Nat} {v v1 v2 : Value} {xs : List Value} {z : Zn} (h : ZoneAt W b v1 v2 z.1 z.2) (hr : W.ownsRow base 45 2 v n xs) (hg : W.grownBy W' v.ownBlock) : ZoneAt W' b v1 v2 z.1 z.2 :=
  ⟨owns_beside hr h.1 (by decide) hg, owns_beside hr h.2 (by decide) hg⟩
theorem ZonesAt.app {W W' : World} {base : Nat} {v v' c1 c2 : Value} {zs : List Zn} {z : Zn} {ps : List (Value × Value)} (hl : ps.length = zs.length) (hr : W.ownsRow base 45 2 v zs.length (zcells ps)) (hz : ∀ (i : Nat) p z, ps[i]? = some p → zs[i]? = some z → ZoneAt W base p.1 p.2 z.1 z.2)
    (hn : ZoneAt W base c1 c2 z.1 z.2) (ho : W'.ownsRow base 45 2 v' (zs.length + 1) (zcells ps ++ [c1, c2])) (hg : W.grownBy W' v.ownBlock) : ZonesAt W' base v' (zs ++ [z]) := by
  refine ⟨ps ++ [(c1, c2)], by simp [hl], ?_, ?_⟩
  · rw [zcells_snoc, List.length_append]; exact ho
  · intro i p y h1 h2
    by_cases hi : i < zs.length
    · rw [List.getElem?_append_left (by omega)] at h1 h2
      exact (hz i p y h1 h2).grown hr hg
    · have h3 := (List.getElem?_eq_some_iff.1 h2).1
      rw [List.length_append] at h3
      simp only [List.length_cons, List.length_nil] at h3
      have e : i = zs.length := by omega
      subst e
      rw [List.getElem?_append_right (by omega)] at h1 h2
      simp only [hl, Nat.sub_self, List.getElem?_cons_zero, Option.some.injEq] at h1 h2
      subst h1; subst h2
      exact hn.grown hr hg

/-- what stays while zones are told: all but the list's box, and rows of zones from base on -/
structure KeepT (base bo : Nat) (W W' : World) : Prop where
  os : W'.os = W.os
  tape : W'.tape = W.tape
  output : W'.output = W.output
  size : W.heap.size ≤ W'.heap.size
  block : ∀ k, k < W.heap.size → k ≠ bo → (k < base ∨ ∀ cs f, W.heap[k]? ≠ some (.cells cs 45 f)) → W'.heap[k]? = W.heap[k]?
theorem KeepT.refl (base bo : Nat) (W : World) : KeepT base bo W W := ⟨rfl, rfl, rfl, Nat.le_refl _, fun _ _ _ _ => rfl⟩
theorem KeepT.trans {base bo : Nat} {a b c : World} (h : KeepT base bo a b) (k : KeepT base bo b c) : KeepT base bo a c :=
  ⟨k.os.trans h.os, k.tape.trans h.tape, k.output.trans h.output, Nat.le_trans h.size k.size, fun q hq h1 h2 => by
    have e := h.block q hq h1 h2
    refine (k.block q (Nat.lt_of_lt_of_le hq h.size) h1 ?_).trans e
    rcases h2 with h2 | h2
    · exact .inl h2
    · exact .inr (by rw [e]; exact h2)⟩
theorem KeepT.of_below {base bo : Nat} {W W' : World} (h : Below W.heap.size W W') : KeepT base bo W W' := ⟨h.os, h.tape, h.output, h.size, fun k hk _ _ => h.block k hk⟩
theorem KeepT.of_grown {base bo n : Nat} {W W' : World} {v : Value} {xs : List Value} (hg : W.grownBy W' v.ownBlock) (hr : W.ownsRow base 45 2 v n xs) : KeepT base bo W W' :=
  ⟨hg.os, hg.tape, hg.output, hg.size, fun k hk _ h2 => hg.block k hk fun e => by
    rcases hr.2 with ⟨rfl, _⟩ | ⟨g, cap, cur, rfl, hb, hgg, _⟩
    · simp [Value.ownBlock] at e
    · have e2 : k = g := by simpa [Value.ownBlock] using e
      subst e2
      rcases h2 with h2 | h2
      · omega
      · exact h2 _ _ hgg⟩
theorem KeepT.setBox {base bo : Nat} (W : World) (j : Nat) (u : Value) : KeepT base bo W (W.setCell ⟨bo, j, none⟩ u) :=
  ⟨rfl, rfl, rfl, by simp [World.setCell], fun k _ h1 _ => Below.heap_setCell W ⟨bo, j, none⟩ u k h1⟩
theorem KeepT.below {base bo B : Nat} {W W' : World} (h : KeepT base bo W W') (hB : B ≤ base) (hbo : B ≤ bo) (hs : B ≤ W.heap.size) : Below B W W' :=
  ⟨h.os, h.tape, h.output, h.size, fun k hk => h.block k (by omega) (by omega) (.inl (by omega))⟩
theorem KeepT.blk {base bo b : Nat} {W W' : World} {cs : Array Value} {t : TypeId} (h : KeepT base bo W W') (hb : Blk W b cs t) (h1 : b ≠ bo) (ht : t ≠ 45) : Blk W' b cs t :=
  (h.block b hb.lt h1 (.inr fun cs' f e => by rw [show W.heap[b]? = _ from hb] at e; cases e; exact ht rfl)).trans hb
theorem KeepT.row {base bo b n sz : Nat} {W W' : World} {e : TypeId} {v u : Value} {xs : List Value} (h : KeepT base bo W W') (hbo : Blk W bo #[u] 41) (hr : W.ownsRow b e sz v n xs) (he : e ≠ 45) (he2 : e ≠ 41) : W'.ownsRow b e sz v n xs := by
  refine ⟨hr.1, ?_⟩
  rcases hr.2 with hn | ⟨g, cap, cur, rfl, hb, hgg, rest⟩
  · exact .inl hn
  · refine .inr ⟨g, cap, cur, rfl, hb, ?_, rest⟩
    rw [h.block g (Array.getElem?_eq_some_iff.1 hgg).1 (fun e' => by subst e'; rw [show W.heap[g]? = _ from hbo] at hgg; cases hgg; exact he2 rfl) (.inr fun cs' f e' => by rw [hgg] at e'; cases e'; exact he rfl)]
    exact hgg
theorem KeepT.zone {base bo b : Nat} {W W' : World} {v1 v2 u : Value} {cl : List (Int × Int)} {gl : List Int} (h : KeepT base bo W W') (hbo : Blk W bo #[u] 41) (hz : ZoneAt W b v1 v2 cl gl) : ZoneAt W' b v1 v2 cl gl :=
  ⟨h.row hbo hz.1 (by decide) (by decide), h.row hbo hz.2 (by decide) (by decide)⟩

theorem Blk.row_ne {w : World} {b base n sz : Nat} {cs : Array Value} {t e : TypeId} {v : Value} {xs : List Value} (h : Blk w b cs t) (hr : w.ownsRow base e sz v n xs) (ht : t ≠ e) : v.ownBlock ≠ some b := by
  rcases hr.2 with ⟨rfl, _⟩ | ⟨g, cap, cur, rfl, _, hgg, _⟩
  · simp [Value.ownBlock]
  · intro e'
    have e2 : g = b := by simpa [Value.ownBlock] using e'
    subst e2
    rw [show w.heap[g]? = _ from h] at hgg; cases hgg; exact ht rfl
theorem ZonesAt.setBox {W : World} {base bo : Nat} {v : Value} {zs : List Zn} {cs : Array Value} (h : ZonesAt W base v zs) (hb : Blk W bo cs 41) (j : Nat) (u : Value) : ZonesAt (W.setCell ⟨bo, j, none⟩ u) base v zs := by
  obtain ⟨ps, hl, hr, hz⟩ := h
  refine ⟨ps, hl, ownsRow_setCell_other hr (hb.row_ne hr (by decide)) u, fun i p z h1 h2 => ?_⟩
  have z0 := hz i p z h1 h2
  exact ⟨ownsRow_setCell_other z0.1 (hb.row_ne z0.1 (by decide)) u, ownsRow_setCell_other z0.2 (hb.row_ne z0.2 (by decide)) u⟩

theorem info_zone : (Try.prog.info? 45).map (fun i => (i.zero, i.size, i.bytes)) = some (some (.agg #[.slice none 0 0, .slice none 0 0]), 2, 48) := by kernel_rfl

theorem owns_one2 {w : World} {base : Nat} {e : TypeId} {v : Value} {n : Nat} {xs : List Value} (h : w.ownsRow base e 2 v n xs) : v.oneCell' = true := by
  obtain ⟨a, c, rfl⟩ := owns_len h; rfl
theorem owns_one1 {w : World} {base : Nat} {e : TypeId} {v : Value} {n : Nat} {xs : List Value} (h : w.ownsRow base e 1 v n xs) : v.oneCell' = true := by
  obtain ⟨a, c, rfl⟩ := owns_len h; rfl

set_option maxRecDepth 100000 in
set_option maxHeartbeats 2000000 in
theorem tell_any {W : World} {bo base : Nat} {v c1 c2 : Value} {zs : List Zn} {z : Zn} (hbo : Blk W bo #[v] 41) (hz : ZonesAt W base v zs) (hn : ZoneAt W base c1 c2 z.1 z.2) (hb : base ≤ W.heap.size) (hl : zs.length ≤ 100000) :
    Calls Try.prog 36 #[.agg #[c1, c2], .pointer (some ⟨bo, 0, none⟩)] W fun e W' => e = .returned (.tuple #[]) ∧ ∃ v', Blk W' bo #[v'] 41 ∧ ZonesAt W' base v' (zs ++ [z]) ∧ KeepT base bo W W' := by
  obtain ⟨ps, hpl, hr, hzz⟩ := hz
  have o1 : c1.oneCell' = true := owns_one2 hn.1
  have o2 : c2.oneCell' = true := owns_one1 hn.2
  obtain ⟨ad1, k1, e1⟩ := owns_len hn.1
  obtain ⟨ad2, k2, e2⟩ := owns_len hn.2
  obtain ⟨W1, hW1⟩ : ∃ W1, W.alloc (.cells #[c1, c2] 45) = W1 := ⟨_, rfl⟩
  have hb1 : Below W.heap.size W W1 := by rw [← hW1]; exact (Below.refl _ W).alloc (Nat.le_refl _) _
  have hlt := hbo.lt
  have hs1 : W1.heap.size = W.heap.size + 1 := by rw [← hW1]; simp
  have b1 := hbo.keep hb1
  have x1 : Blk W1 W.heap.size #[c1, c2] 45 := by rw [← hW1]; exact Blk.new _ _ _
  have c0 : W1.cell? ⟨bo, 0, none⟩ = some v := b1.cell rfl
  have d0 := x1.two.1
  have d1 := x1.two.2
  have r1 := owns_below hr hb1
  have fr := b1.free 0
  obtain ⟨m, hm⟩ : ∃ m, zs.length = m := ⟨_, rfl⟩
  rw [hm] at r1 hl
  obtain ⟨ad0, k0, e0⟩ := owns_len r1
  have HR := Lib.hid r1; have HB := Lib.hid hb1; have HBO := Lib.hid b1
  have HZ := Lib.hid hzz; have HN := Lib.hid hn; have HM := Lib.hid hm; have HP := Lib.hid hpl; have HR0 := Lib.hid hr
  subst e0; subst e1; subst e2
  clear r1 hb1 b1 x1 hzz hn hm hpl hbo hr
  go_enter Try.func36, Try.ntmps36
  have hne := Lib.hid (HBO.out.row_ne HR.out (by decide))
  go_wp2_with (first
    | (at_builtin
       refine app1 W1 #[.slice ad1 z.1.length k1, .slice ad2 z.2.length k2] rfl _ _ 41 rfl base 45 (.agg #[.slice none 0 0, .slice none 0 0]) 2 48 Try.underlying41 info_zone rfl (by decide) (by decide) _ m (zcells ps) rfl (by exact HR.out) rfl (by omega) rfl (by simp [Value.oneCell']) (by omega) (by omega) ?_
       intro v0 w2 ho hg _
       change W1.grownBy w2 (Value.slice ad0 m k0).ownBlock at hg
       obtain ⟨v', hv'⟩ : ∃ v', v0 = v' := ⟨_, rfl⟩
       obtain ⟨ad', cap', hvv⟩ := owns_len ho
       subst hvv
       subst hv'
       have hx : Blk w2 bo #[.slice ad0 m k0] 41 := HBO.out.grown hg hne.out
       have f0 : w2.cell? ⟨bo, 0, none⟩ = some (.slice ad0 m k0) := hx.cell rfl
       have f1 := hx.free 0
       have hs2 := hg.size
       have HX := Lib.hid hx; have HO := Lib.hid ho; have HG := Lib.hid hg
       clear hx ho hg)
    | fail)
  first
  | go_end0
  | ((try simp only [Exit.inBlock, Exit.then]); refine bodyPost_ret (results_none rfl _ _ _) rfl ?_)
  have hZN : ZonesAt w2 base (.slice ad' (m + 1) cap') (zs ++ [z]) := ZonesAt.app (W := W1) HP.out (by rw [HM.out]; exact HR.out) (fun i p y h1 h2 => (HZ.out i p y h1 h2).below HB.out) (HN.out.below HB.out) (by rw [HM.out]; exact HO.out) HG.out
  have k1 : KeepT base bo W w2 := (KeepT.of_below HB.out).trans (KeepT.of_grown HG.out HR.out)
  exact ⟨rfl, _, HX.out.store 0 _, hZN.setBox HX.out 0 _, k1.trans (KeepT.setBox w2 0 _)⟩

end Go.Proofs.Ytjmggphnngffjaa
