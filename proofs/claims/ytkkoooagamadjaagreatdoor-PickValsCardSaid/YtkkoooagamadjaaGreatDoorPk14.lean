/- Rows of zones; the closure of put.Put, which tells a zone; what stays meanwhile. The maker of package put: alone, put. The maker of package put: put tells a zone in which the attribute is a class of its own. -/
import Derived.Test.YtkkoooagamadjaaGreatDoorPk11
import Derived.Test.YtkkoooagamadjaaGreatDoorPk13
import Derived.StillTailTactics
import Derived.Deep.DeepCutAuto

namespace Go.Proofs.YtkkoooagamadjaaGreatDoor
open Go.RowKit

/-- a zone: its classes, its gaps -/
abbrev Zn := List (Int × Int) × List Int
def zcells (ps : List (Value × Value)) : List Value := ps.flatMap fun p => [p.1, p.2]
theorem zcells_len (ps : List (Value × Value)) : (zcells ps).length = ps.length * 2 := by
  induction ps with
  | nil => rfl
  | cons p r ih => simp only [zcells, List.flatMap_cons, List.length_append, List.length_cons, List.length_nil] at *; omega
theorem zcells_snoc (ps : List (Value × Value)) (p : Value × Value) : zcells (ps ++ [p]) = zcells ps ++ [p.1, p.2] := by simp [zcells]
theorem zcells_get (ps : List (Value × Value)) : ∀ (k : Nat) (p : Value × Value), ps[k]? = some p → (zcells ps)[k * 2]? = some p.1 ∧ (zcells ps)[k * 2 + 1]? = some p.2 := by
  induction ps with
  | nil => intro k p h; simp at h
  | cons q r ih =>
    intro k p h
    cases k with
    | zero => simp at h; subst h; simp [zcells]
    | succ k =>
      have := ih k p (by simpa using h)
      rw [show (k + 1) * 2 = k * 2 + 1 + 1 by omega]
      simpa [zcells] using this

/-- a row of zones in memory of its own -/
def ZonesAt (W : World) (base : Nat) (v : Value) (zs : List Zn) : Prop :=
  ∃ ps : List (Value × Value), ps.length = zs.length ∧ W.ownsRow base 28 2 v zs.length (zcells ps) ∧ ∀ (i : Nat) p z, ps[i]? = some p → zs[i]? = some z → ZoneAt W base p.1 p.2 z.1 z.2
theorem ZonesAt.nil (W : World) (base : Nat) : ZonesAt W base (.slice none 0 0) [] := ⟨[], rfl, World.ownsRow_nil _ _ _ _, fun i p z h => by simp at h⟩
theorem ZonesAt.below {W W' : World} {base : Nat} {v : Value} {zs : List Zn} (h : ZonesAt W base v zs) (hb : Below W.heap.size W W') : ZonesAt W' base v zs := by
  obtain ⟨ps, hl, hr, hz⟩ := h
  exact ⟨ps, hl, owns_below hr hb, fun i p z h1 h2 => (hz i p z h1 h2).below hb⟩
theorem ZonesAt.mono {W : World} {base b : Nat} {v : Value} {zs : List Zn} (h : ZonesAt W base v zs) (hb : b ≤ base) : ZonesAt W b v zs := by
  obtain ⟨ps, hl, hr, hz⟩ := h
  exact ⟨ps, hl, owns_mono hr hb, fun i p z h1 h2 => ⟨owns_mono (hz i p z h1 h2).1 hb, owns_mono (hz i p z h1 h2).2 hb⟩⟩
theorem ZonesAt.len {W : World} {base : Nat} {v : Value} {zs : List Zn} (h : ZonesAt W base v zs) : ∃ ad cap, v = .slice ad zs.length cap := by
  obtain ⟨ps, hl, hr, hz⟩ := h
  exact owns_len hr
theorem ZoneAt.grown {W W' : World} {base b n : Nat} {v v1 v2 : Value} {xs : List Value} {z : Zn} (h : ZoneAt W b v1 v2 z.1 z.2) (hr : W.ownsRow base 28 2 v n xs) (hg : W.grownBy W' v.ownBlock) : ZoneAt W' b v1 v2 z.1 z.2 :=
  ⟨owns_beside hr h.1 (by decide) hg, owns_beside hr h.2 (by decide) hg⟩
theorem ZonesAt.app {W W' : World} {base : Nat} {v v' c1 c2 : Value} {zs : List Zn} {z : Zn} {ps : List (Value × Value)} (hl : ps.length = zs.length) (hr : W.ownsRow base 28 2 v zs.length (zcells ps)) (hz : ∀ (i : Nat) p z, ps[i]? = some p → zs[i]? = some z → ZoneAt W base p.1 p.2 z.1 z.2)
    (hn : ZoneAt W base c1 c2 z.1 z.2) (ho : W'.ownsRow base 28 2 v' (zs.length + 1) (zcells ps ++ [c1, c2])) (hg : W.grownBy W' v.ownBlock) : ZonesAt W' base v' (zs ++ [z]) := by
  refine ⟨ps ++ [(c1, c2)], by simp [hl], ?_, ?_⟩
  · rw [zcells_snoc, List.length_append]; exact ho
  · intro i p y h1 h2
    by_cases hi : i < zs.length
    · rw [List.getElem?_append_left (by omega)] at h1 h2
      exact (hz i p y h1 h2).grown hr hg
    · have h3 := (List.getElem?_eq_some_iff.1 h2).1
      rw [List.length_append] at h3
      simp only [List.length_cons, List.length_nil] at h3
      have e : i = zs.length := by omega
      subst e
      rw [List.getElem?_append_right (by omega)] at h1 h2
      simp only [hl, Nat.sub_self, List.getElem?_cons_zero, Option.some.injEq] at h1 h2
      subst h1; subst h2
      exact hn.grown hr hg

/-- what stays while zones are told: all but the list's box, and rows of zones from base on -/
structure KeepT (base bo : Nat) (W W' : World) : Prop where
  os : W'.os = W.os
  tape : W'.tape = W.tape
  output : W'.output = W.output
  size : W.heap.size ≤ W'.heap.size
  block : ∀ k, k < W.heap.size → k ≠ bo → (k < base ∨ ∀ cs f, W.heap[k]? ≠ some (.cells cs 28 f)) → W'.heap[k]? = W.heap[k]?
theorem KeepT.refl (base bo : Nat) (W : World) : KeepT base bo W W := ⟨rfl, rfl, rfl, Nat.le_refl _, fun _ _ _ _ => rfl⟩
theorem KeepT.trans {base bo : Nat} {a b c : World} (h : KeepT base bo a b) (k : KeepT base bo b c) : KeepT base bo a c :=
  ⟨k.os.trans h.os, k.tape.trans h.tape, k.output.trans h.output, Nat.le_trans h.size k.size, fun q hq h1 h2 => by
    have e := h.block q hq h1 h2
    refine (k.block q (Nat.lt_of_lt_of_le hq h.size) h1 ?_).trans e
    rcases h2 with h2 | h2
    · exact .inl h2
    · exact .inr (by rw [e]; exact h2)⟩
theorem KeepT.of_below {base bo : Nat} {W W' : World} (h : Below W.heap.size W W') : KeepT base bo W W' := ⟨h.os, h.tape, h.output, h.size, fun k hk _ _ => h.block k hk⟩
theorem KeepT.of_grown {base bo n : Nat} {W W' : World} {v : Value} {xs : List Value} (hg : W.grownBy W' v.ownBlock) (hr : W.ownsRow base 28 2 v n xs) : KeepT base bo W W' :=
  ⟨hg.os, hg.tape, hg.output, hg.size, fun k hk _ h2 => hg.block k hk fun e => by
    rcases hr.2 with ⟨rfl, _⟩ | ⟨g, cap, cur, rfl, hb, hgg, _⟩
    · simp [Value.ownBlock] at e
    · have e2 : k = g := by simpa [Value.ownBlock] using e
      subst e2
      rcases h2 with h2 | h2
      · omega
      · exact h2 _ _ hgg⟩
theorem KeepT.setBox {base bo : Nat} (W : World) (j : Nat) (u : Value) : KeepT base bo W (W.setCell ⟨bo, j, none⟩ u) :=
  ⟨rfl, rfl, rfl, by simp [World.setCell], fun k _ h1 _ => Below.heap_setCell W ⟨bo, j, none⟩ u k h1⟩
theorem KeepT.below {base bo B : Nat} {W W' : World} (h : KeepT base bo W W') (hB : B ≤ base) (hbo : B ≤ bo) (hs : B ≤ W.heap.size) : Below B W W' :=
  ⟨h.os, h.tape, h.output, h.size, fun k hk => h.block k (by omega) (by omega) (.inl (by omega))⟩
theorem KeepT.blk {base bo b : Nat} {W W' : World} {cs : Array Value} {t : TypeId} (h : KeepT base bo W W') (hb : Blk W b cs t) (h1 : b ≠ bo) (ht : t ≠ 28) : Blk W' b cs t :=
  (h.block b hb.lt h1 (.inr fun cs' f e => by rw [show W.heap[b]? = _ from hb] at e; cases e; exact ht rfl)).trans hb
theorem KeepT.row {base bo b n sz : Nat} {W W' : World} {e : TypeId} {v u : Value} {xs : List Value} (h : KeepT base bo W W') (hbo : Blk W bo #[u] 30) (hr : W.ownsRow b e sz v n xs) (he : e ≠ 28) (he2 : e ≠ 30) : W'.ownsRow b e sz v n xs := by
  refine ⟨hr.1, ?_⟩
  rcases hr.2 with hn | ⟨g, cap, cur, rfl, hb, hgg, rest⟩
  · exact .inl hn
  · refine .inr ⟨g, cap, cur, rfl, hb, ?_, rest⟩
    rw [h.block g (Array.getElem?_eq_some_iff.1 hgg).1 (fun e' => by subst e'; rw [show W.heap[g]? = _ from hbo] at hgg; cases hgg; exact he2 rfl) (.inr fun cs' f e' => by rw [hgg] at e'; cases e'; exact he rfl)]
    exact hgg
theorem KeepT.zone {base bo b : Nat} {W W' : World} {v1 v2 u : Value} {cl : List (Int × Int)} {gl : List Int} (h : KeepT base bo W W') (hbo : Blk W bo #[u] 30) (hz : ZoneAt W b v1 v2 cl gl) : ZoneAt W' b v1 v2 cl gl :=
  ⟨h.row hbo hz.1 (by decide) (by decide), h.row hbo hz.2 (by decide) (by decide)⟩

theorem Blk.row_ne {w : World} {b base n sz : Nat} {cs : Array Value} {t e : TypeId} {v : Value} {xs : List Value} (h : Blk w b cs t) (hr : w.ownsRow base e sz v n xs) (ht : t ≠ e) : v.ownBlock ≠ some b := by
  rcases hr.2 with ⟨rfl, _⟩ | ⟨g, cap, cur, rfl, _, hgg, _⟩
  · simp [Value.ownBlock]
  · intro e'
    have e2 : g = b := by simpa [Value.ownBlock] using e'
    subst e2
    rw [show w.heap[g]? = _ from h] at hgg; cases hgg; exact ht rfl
theorem ZonesAt.setBox {W : World} {base bo : Nat} {v : Value} {zs : List Zn} {cs : Array Value} (h : ZonesAt W base v zs) (hb : Blk W bo cs 30) (j : Nat) (u : Value) : ZonesAt (W.setCell ⟨bo, j, none⟩ u) base v zs := by
  obtain ⟨ps, hl, hr, hz⟩ := h
  refine ⟨ps, hl, ownsRow_setCell_other hr (hb.row_ne hr (by decide)) u, fun i p z h1 h2 => ?_⟩
  have z0 := hz i p z h1 h2
  exact ⟨ownsRow_setCell_other z0.1 (hb.row_ne z0.1 (by decide)) u, ownsRow_setCell_other z0.2 (hb.row_ne z0.2 (by decide)) u⟩

theorem info_zone : (Tryz.prog.info? 28).map (fun i => (i.zero, i.size, i.bytes)) = some (some (.agg #[.slice none 0 0, .slice none 0 0]), 2, 48) := by kernel_rfl

theorem owns_one2 {w : World} {base : Nat} {e : TypeId} {v : Value} {n : Nat} {xs : List Value} (h : w.ownsRow base e 2 v n xs) : v.oneCell' = true := by
  obtain ⟨a, c, rfl⟩ := owns_len h; rfl
theorem owns_one1 {w : World} {base : Nat} {e : TypeId} {v : Value} {n : Nat} {xs : List Value} (h : w.ownsRow base e 1 v n xs) : v.oneCell' = true := by
  obtain ⟨a, c, rfl⟩ := owns_len h; rfl

set_option maxRecDepth 100000 in
set_option maxHeartbeats 2000000 in
theorem tell_any {W : World} {bo base : Nat} {v c1 c2 : Value} {zs : List Zn} {z : Zn} (hbo : Blk W bo #[v] 30) (hz : ZonesAt W base v zs) (hn : ZoneAt W base c1 c2 z.1 z.2) (hb : base ≤ W.heap.size) (hl : zs.length ≤ 100000) :
    Calls Tryz.prog 48 #[.agg #[c1, c2], .pointer (some ⟨bo, 0, none⟩)] W fun e W' => e = .returned (.tuple #[]) ∧ ∃ v', Blk W' bo #[v'] 30 ∧ ZonesAt W' base v' (zs ++ [z]) ∧ KeepT base bo W W' := by
  obtain ⟨ps, hpl, hr, hzz⟩ := hz
  have o1 : c1.oneCell' = true := owns_one2 hn.1
  have o2 : c2.oneCell' = true := owns_one1 hn.2
  obtain ⟨ad1, k1, e1⟩ := owns_len hn.1
  obtain ⟨ad2, k2, e2⟩ := owns_len hn.2
  obtain ⟨W1, hW1⟩ : ∃ W1, W.alloc (.cells #[c1, c2] 28) = W1 := ⟨_, rfl⟩
  have hb1 : Below W.heap.size W W1 := by rw [← hW1]; exact (Below.refl _ W).alloc (Nat.le_refl _) _
  have hlt := hbo.lt
  have hs1 : W1.heap.size = W.heap.size + 1 := by rw [← hW1]; simp
  have b1 := hbo.keep hb1
  have x1 : Blk W1 W.heap.size #[c1, c2] 28 := by rw [← hW1]; exact Blk.new _ _ _
  have c0 : W1.cell? ⟨bo, 0, none⟩ = some v := b1.cell rfl
  have d0 := x1.two.1
  have d1 := x1.two.2
  have r1 := owns_below hr hb1
  have fr := b1.free 0
  obtain ⟨m, hm⟩ : ∃ m, zs.length = m := ⟨_, rfl⟩
  rw [hm] at r1 hl
  obtain ⟨ad0, k0, e0⟩ := owns_len r1
  have HR := Lib.hid r1; have HB := Lib.hid hb1; have HBO := Lib.hid b1
  have HZ := Lib.hid hzz; have HN := Lib.hid hn; have HM := Lib.hid hm; have HP := Lib.hid hpl; have HR0 := Lib.hid hr
  subst e0; subst e1; subst e2
  clear r1 hb1 b1 x1 hzz hn hm hpl hbo hr
  go_enter Tryz.func48, Tryz.ntmps48
  have hne := Lib.hid (HBO.out.row_ne HR.out (by decide))
  go_wp2_with (first
    | (at_builtin
       refine app1 W1 #[.slice ad1 z.1.length k1, .slice ad2 z.2.length k2] rfl _ _ 30 rfl base 28 (.agg #[.slice none 0 0, .slice none 0 0]) 2 48 Tryz.underlying30 info_zone rfl (by decide) (by decide) _ m (zcells ps) rfl (by exact HR.out) rfl (by omega) rfl (by simp [Value.oneCell']) (by omega) (by omega) ?_
       intro v0 w2 ho hg _
       change W1.grownBy w2 (Value.slice ad0 m k0).ownBlock at hg
       obtain ⟨v', hv'⟩ : ∃ v', v0 = v' := ⟨_, rfl⟩
       obtain ⟨ad', cap', hvv⟩ := owns_len ho
       subst hvv
       subst hv'
       have hx : Blk w2 bo #[.slice ad0 m k0] 30 := HBO.out.grown hg hne.out
       have f0 : w2.cell? ⟨bo, 0, none⟩ = some (.slice ad0 m k0) := hx.cell rfl
       have f1 := hx.free 0
       have hs2 := hg.size
       have HX := Lib.hid hx; have HO := Lib.hid ho; have HG := Lib.hid hg
       clear hx ho hg)
    | fail)
  first
  | go_end0
  | ((try simp only [Exit.inBlock, Exit.then]); refine bodyPost_ret (results_none rfl _ _ _) rfl ?_)
  have hZN : ZonesAt w2 base (.slice ad' (m + 1) cap') (zs ++ [z]) := ZonesAt.app (W := W1) HP.out (by rw [HM.out]; exact HR.out) (fun i p y h1 h2 => (HZ.out i p y h1 h2).below HB.out) (HN.out.below HB.out) (by rw [HM.out]; exact HO.out) HG.out
  have k1 : KeepT base bo W w2 := (KeepT.of_below HB.out).trans (KeepT.of_grown HG.out HR.out)
  exact ⟨rfl, _, HX.out.store 0 _, hZN.setBox HX.out 0 _, k1.trans (KeepT.setBox w2 0 _)⟩

end Go.Proofs.YtkkoooagamadjaaGreatDoor

namespace Go.Proofs.YtkkoooagamadjaaGreatDoor
open Go.RowKit

/-- the function that tells a zone -/
def tellV (bo : Nat) : Value := .func (.func 48) #[] #[.pointer (some ⟨bo, 0, none⟩)]
/-- how things lie while zones are told -/
structure PI (w0 : World) (base bo bm : Nat) (v1 v2 : Value) (cl : List (Int × Int)) (gl : List Int) (a r : Int) (v : Value) (zs : List Zn) (W : World) : Prop where
  box : Blk W bo #[v] 30
  zones : ZonesAt W base v zs
  maker : Blk W bm #[v1, v2, .int .i64 a, .int .i64 r, tellV bo] 76
  z0 : ZoneIn w0 v1 v2 cl gl
  low : Below w0.heap.size w0 W
  hb : base ≤ W.heap.size
  h0 : w0.heap.size ≤ base
  hbo : w0.heap.size ≤ bo
  ne : bm ≠ bo
theorem PI.zin {w0 W : World} {base bo bm : Nat} {v1 v2 v : Value} {cl : List (Int × Int)} {gl : List Int} {a r : Int} {zs : List Zn} (h : PI w0 base bo bm v1 v2 cl gl a r v zs W) : ZoneIn W v1 v2 cl gl := h.z0.below h.low
theorem PI.step {w0 W W' : World} {base bo bm : Nat} {v1 v2 v v' : Value} {cl : List (Int × Int)} {gl : List Int} {a r : Int} {zs zs' : List Zn} (h : PI w0 base bo bm v1 v2 cl gl a r v zs W) (k : KeepT base bo W W') (hx : Blk W' bo #[v'] 30) (hz : ZonesAt W' base v' zs') : PI w0 base bo bm v1 v2 cl gl a r v' zs' W' :=
  ⟨hx, hz, k.blk h.maker h.ne (by decide), h.z0, h.low.trans (k.below h.h0 h.hbo h.low.size), Nat.le_trans h.hb k.size, h.h0, h.hbo, h.ne⟩
theorem PI.below {w0 W W' : World} {base bo bm : Nat} {v1 v2 v : Value} {cl : List (Int × Int)} {gl : List Int} {a r : Int} {zs : List Zn} (h : PI w0 base bo bm v1 v2 cl gl a r v zs W) (k : Below W.heap.size W W') : PI w0 base bo bm v1 v2 cl gl a r v zs W' :=
  h.step (KeepT.of_below k) (h.box.keep k) (h.zones.below k)

/-- an attribute alone -/
def bitZ (a : Int) : Int := putZ 0 a true

set_option maxHeartbeats 1000000 in
theorem alone_any {W : World} {bm : Nat} {v1 v2 f : Value} {a r : Int} (hm : Blk W bm #[v1, v2, .int .i64 a, .int .i64 r, f] 76) :
    Calls Tryz.prog 108 #[.pointer (some ⟨bm, 0, none⟩)] W fun e W' => e = .returned (.agg #[.int .i64 (bitZ a), .int .i64 (-1)]) ∧ Below W.heap.size W W' := by
  have hlt := hm.lt
  have c1 : W.cell? ⟨bm, 2, none⟩ = some (.int .i64 a) := hm.cell rfl
  obtain ⟨W1, hW1⟩ : ∃ W1, W.alloc (.cells #[.int .i64 0, .int .i64 0] 47) = W1 := ⟨_, rfl⟩
  have hs1 : W1.heap.size = W.heap.size + 1 := by rw [← hW1]; simp
  obtain ⟨W2, hW2⟩ : ∃ W2, W1.alloc (.cells #[.int .i64 a] 3) = W2 := ⟨_, rfl⟩
  have hs2 : W2.heap.size = W.heap.size + 2 := by rw [← hW2]; simp [hs1]
  have hb1 : Below W.heap.size W W1 := by rw [← hW1]; exact (Below.refl _ W).alloc (Nat.le_refl _) _
  have hb2 : Below W.heap.size W W2 := by rw [← hW2]; exact hb1.alloc (by omega) _
  have c2 : W1.cell? ⟨bm, 2, none⟩ = some (.int .i64 a) := (hm.keep hb1).cell rfl
  have x2 : Blk W2 W.heap.size #[.int .i64 0, .int .i64 0] 47 := by
    rw [← hW2]; exact Blk.alloc (by rw [← hW1]; exact Blk.new _ _ _) _
  have hrd : Reads W2 (.slice (some ⟨W.heap.size + 1, 0, none⟩) 1 1) (ints [a]) := by
    refine .inr ⟨W.heap.size + 1, 0, 1, rfl, by omega, by simp [ints, maxLen], fun t x hx => ?_⟩
    have ht : t = 0 := by have := (List.getElem?_eq_some_iff.1 hx).1; simp [ints] at this; omega
    subst ht
    simp [ints] at hx
    subst hx
    rw [← hW2, ← hs1]
    exact (Blk.new W1 #[.int .i64 a] 3).cell rfl
  have HO := Lib.hid (of_any (.slice (some ⟨W.heap.size + 1, 0, none⟩) 1 1) [a] W2 hrd)
  have hof : ofL [a] = bitZ a := rfl
  rw [hof] at HO
  have d0 := x2.two.1; have d1 := x2.two.2
  have f0 := x2.free 0; have f1 := x2.free 1
  have HB := Lib.hid hb2; have HX := Lib.hid x2
  clear hm hrd hb1 hb2 x2
  obtain ⟨q, hq⟩ : ∃ q, bitZ a = q := ⟨_, rfl⟩
  rw [hq] at HO ⊢
  go_enter Tryz.func108, Tryz.ntmps108
  go_wp2_with fail
  refine HO.out.mono ?_
  rintro e w3 ⟨rfl, hw⟩
  rw [← hw]
  clear hw w3
  go_wp2
  have v1 := HX.out.put2 (.int .i64 q) (.int .i64 (-1))
  have e0 := v1.two.1; have e1 := v1.two.2
  refine bodyPost_ret (v := .agg #[.int .i64 q, .int .i64 (-1)]) (by simp [results, Tryz.results108, go_sem, e0, e1]) rfl ?_
  exact ⟨rfl, (HB.out.setCell (p := ⟨W.heap.size, 0, none⟩) (Nat.le_refl _) _).setCell (p := ⟨W.heap.size, 1, none⟩) (Nat.le_refl _) _⟩

/-- gaps, some of them put instead of others -/
def RepOK (W : World) (gv : Value) (news : List Int) (f u n : Nat) : Prop :=
  (u = f ∧ f ≤ n ∧ ∃ b, gv = .slice (some ⟨b, 0, none⟩) 1 1 ∧ news.length = 1 ∧ b < W.heap.size ∧ ∀ j x, (ints news)[j]? = some x → W.cell? ⟨b, 0 + j, none⟩ = some x) ∨
  (u = f + 1 ∧ f < n ∧ ∃ b, gv = .slice (some ⟨b, 0, none⟩) 2 2 ∧ news.length = 2 ∧ b < W.heap.size ∧ ∀ j x, (ints news)[j]? = some x → W.cell? ⟨b, 0 + j, none⟩ = some x) ∨
  (n = 0 ∧ f = 0 ∧ u = 0 ∧ gv = .slice none 0 0 ∧ news = [])
theorem RepOK.below {W W' : World} {gv : Value} {news : List Int} {f u n : Nat} (h : RepOK W gv news f u n) (hb : Below W.heap.size W W') : RepOK W' gv news f u n := by
  rcases h with ⟨h1, h2, b, h3, h4, h5, h6⟩ | ⟨h1, h2, b, h3, h4, h5, h6⟩ | h
  · exact .inl ⟨h1, h2, b, h3, h4, Nat.lt_of_lt_of_le h5 hb.size, fun j x hx => (hb.cell (p := ⟨b, 0 + j, none⟩) h5).trans (h6 j x hx)⟩
  · exact .inr (.inl ⟨h1, h2, b, h3, h4, Nat.lt_of_lt_of_le h5 hb.size, fun j x hx => (hb.cell (p := ⟨b, 0 + j, none⟩) h5).trans (h6 j x hx)⟩)
  · exact .inr (.inr h)
theorem RepOK.vform {W : World} {gv : Value} {news : List Int} {f u n : Nat} (h : RepOK W gv news f u n) : ∃ ad k, gv = .slice ad k k ∧ u ≤ n + 1 ∧ f ≤ n := by
  rcases h with ⟨h1, h2, b, h3, _⟩ | ⟨h1, h2, b, h3, _⟩ | ⟨h1, h2, h3, h4, _⟩
  · exact ⟨_, _, h3, by omega, h2⟩
  · exact ⟨_, _, h3, by omega, by omega⟩
  · exact ⟨_, _, h4, by omega, by omega⟩

def repG (gl : List Int) (f u : Nat) (news : List Int) : List Int := gl.take f ++ news ++ gl.drop u
theorem repG_ints (gl : List Int) (f u : Nat) (news : List Int) : ints (repG gl f u news) = (ints gl).take f ++ ints news ++ (ints gl).drop u := by simp [repG, ints]

set_option maxHeartbeats 1000000 in
set_option maxRecDepth 1000000 in
theorem rep_any (g n base f u : Nat) (gv : Value) (gl news : List Int) (w : World) (hown : w.ownsRow base 3 1 (.slice (some ⟨g, 0, none⟩) n n) n (ints gl)) (hn : n ≤ 65536) (hb : base ≤ w.heap.size) (hr : RepOK w gv news f u n) :
    Calls Tryz.prog 109 #[.slice (some ⟨g, 0, none⟩) n n, .int .i64 f, .int .i64 u, gv] w fun e w' => ∃ g' cap', e = .returned (.slice (some ⟨g', 0, none⟩) (repG gl f u news).length cap') ∧
      w'.ownsRow base 3 1 (.slice (some ⟨g', 0, none⟩) (repG gl f u news).length cap') (repG gl f u news).length (ints (repG gl f u news)) ∧ Below w.heap.size w w' := by
  have hlen : gl.length = n := by have := hown.1; rw [ints_len] at this; omega
  rcases hr with ⟨rfl, h2, b, rfl, h4, h5, h6⟩ | ⟨rfl, h2, b, rfl, h4, h5, h6⟩ | ⟨rfl, rfl, rfl, rfl, rfl⟩
  · refine (rep_same g n base u b 0 1 (ints gl) (ints news) w hown (ints_one _) h2 hn (by rw [ints_len, h4]) (by decide) (by decide) (ints_one _) h5 h6).mono ?_
    rintro e w' ⟨g', cap', rfl, ho, hb'⟩
    have e1 : (repG gl u u news).length = n + 1 := by simp [repG, h4]; omega
    rw [e1, repG_ints]
    exact ⟨g', cap', rfl, owns_mono ho hb, hb'⟩
  · have hc : (((f + 1 : Nat) : Int)) = (f : Int) + 1 := by omega
    rw [hc]
    refine (rep_two g n base f b 0 (ints gl) (ints news) w hown (ints_one _) h2 hn (by rw [ints_len, h4]) (ints_one _) h5 h6).mono ?_
    rintro e w' ⟨g', cap', rfl, ho, hb'⟩
    have e1 : (repG gl f (f + 1) news).length = n + 1 := by simp [repG, h4]; omega
    rw [e1, repG_ints]
    exact ⟨g', cap', rfl, owns_mono ho hb, hb'⟩
  · obtain rfl : gl = [] := List.eq_nil_of_length_eq_zero hlen
    have HO := Lib.hid hown
    clear hown hlen
    have HI : Hid (Calls Tryz.prog 134 #[.slice (some ⟨g, 0, none⟩) 0 0, .int .i64 0, .slice none 0 0] w fun e w' => e = .returned (.slice (some ⟨g, 0, none⟩) 0 0) ∧ w' = w) := by
      unfold Hid
      go_enter Tryz.func134, Tryz.ntmps134
      go_wp2
      go_ret
      exact ⟨rfl, rfl⟩
    go_enter Tryz.func109, Tryz.ntmps109
    go_wp2_with fail
    refine HI.out.mono ?_
    rintro e w1 ⟨rfl, rfl⟩
    go_wp2
    go_ret
    exact ⟨g, 0, rfl, HO.out, Below.refl _ _⟩

end Go.Proofs.YtkkoooagamadjaaGreatDoor

namespace Go.Proofs.YtkkoooagamadjaaGreatDoor
open Go.RowKit

/-- classes, and one of the attribute alone at a place -/
def ownC (cl : List (Int × Int)) (a : Int) (k : Nat) : List (Int × Int) := cl.take k ++ [(bitZ a, -1)] ++ cl.drop k
theorem ownC_len (cl : List (Int × Int)) (a : Int) (k : Nat) : (ownC cl a k).length = cl.length + 1 := by simp [ownC]; omega
theorem ownC_cells (cl : List (Int × Int)) (a : Int) (k : Nat) : cellsP (ownC cl a k) = (cellsP cl).take (k * 2) ++ [.int .i64 (bitZ a), .int .i64 (-1)] ++ (cellsP cl).drop (k * 2) := by
  rw [cellsP_take, cellsP_drop]; simp [ownC, cellsP_append]; simp [cellsP]
def clipL (gl : List Int) (r : Int) : List Int := gl.map fun g => klip g r
theorem clipL_len (gl : List Int) (r : Int) : (clipL gl r).length = gl.length := by simp [clipL]
/-- the zone that is told -/
def ownZ (cl : List (Int × Int)) (gl : List Int) (a r : Int) (k f u : Nat) (news : List Int) : Zn := (ownC cl a k, repG (clipL gl (r - 1)) f u news)

/-- a zone's box, and the zone in it -/
def ZBox (W : World) (b B : Nat) (c1 c2 : Value) (z : Zn) : Prop := Blk W b #[c1, c2] 28 ∧ ZoneAt W B c1 c2 z.1 z.2

set_option maxRecDepth 100000 in
set_option maxHeartbeats 4000000 in
theorem put_run {w0 W : World} {base bo bm : Nat} {v1 v2 v : Value} {cl : List (Int × Int)} {gl : List Int} {a r : Int} {zs : List Zn} (h : PI w0 base bo bm v1 v2 cl gl a r v zs W) (hcl : cl.length ≤ 60000) (hgl : gl.length ≤ 60000) (hr1 : 1 ≤ r) (hr2 : r ≤ 1000) (hl : zs.length ≤ 100000)
    (k f u : Nat) (gv : Value) (news : List Int) (hk : k ≤ cl.length) (hrep : RepOK W gv news f u gl.length) :
    Calls Tryz.prog 80 #[.pointer (some ⟨bm, 0, none⟩), .int .i64 k, .int .i64 f, .int .i64 u, gv] W fun e W' => e = .returned (.tuple #[]) ∧ ∃ v', PI w0 base bo bm v1 v2 cl gl a r v' (zs ++ [ownZ cl gl a r k f u news]) W' ∧ KeepT base bo W W' := by
  obtain ⟨gad, gk, hgv, hu, hf⟩ := hrep.vform
  obtain ⟨ad1, k1, e1⟩ := h.zin.1.len
  obtain ⟨ad2, k2, e2⟩ := h.zin.2.len
  have HP := Lib.hid h
  have HR := Lib.hid hrep
  obtain ⟨n, hn⟩ : ∃ n, cl.length = n := ⟨_, rfl⟩
  obtain ⟨m, hm⟩ : ∃ m, gl.length = m := ⟨_, rfl⟩
  have HN := Lib.hid hn; have HM := Lib.hid hm
  have hblt := h.maker.lt
  have c0 : W.cell? ⟨bm, 0, none⟩ = some (.slice ad1 n k1) := by rw [← hn, ← e1]; exact h.maker.cell rfl
  have c1 : W.cell? ⟨bm, 1, none⟩ = some (.slice ad2 m k2) := by rw [← hm, ← e2]; exact h.maker.cell rfl
  have c3 : W.cell? ⟨bm, 3, none⟩ = some (.int .i64 r) := h.maker.cell rfl
  have hwr : IntKind.i64.wrap (r - 1) = r - 1 := by rw [IntKind.wrap_i64]; omega
  have hbA : Below W.heap.size W W.drew := (Below.refl _ W).drew
  have hbB : Below W.heap.size W (W.alloc (.cells #[.slice none 0 0, .slice none 0 0] 28)).drew := ((Below.refl _ W).alloc (Nat.le_refl _) _).drew
  have hA := dropClipI_any v1 v2 cl gl (r - 1) W.drew (h.zin.below hbA) (by omega) (by omega)
  have hB := dropClipI_any v1 v2 cl gl (r - 1) (W.alloc (.cells #[.slice none 0 0, .slice none 0 0] 28)).drew (h.zin.below hbB) (by omega) (by omega)
  rw [hn, hm] at hA hB
  rw [hn] at e1; rw [hm] at e2
  rw [e1, e2] at hA hB
  have HA := Lib.hid hA; have HB := Lib.hid hB
  rw [hn] at hk hcl; rw [hm] at hgl hu hf
  subst hgv
  have HE1 := Lib.hid e1; have HE2 := Lib.hid e2
  clear h hrep hA hB hn hm hbA hbB e1 e2
  go_enter Tryz.func80, Tryz.ntmps80
  go_upto_region 0 with fail
  go_cut [10] (fun v10 wx => ∃ (bz g1 g2 : Nat), v10 = .pointer (some ⟨bz, 0, none⟩) ∧ Hid (ZBox wx bz W.heap.size (.slice (some ⟨g1, 0, none⟩) n n) (.slice (some ⟨g2, 0, none⟩) m m) (cl, clipL gl (r - 1)) ∧ Below W.heap.size W wx ∧ W.heap.size ≤ bz))
  case first =>
    go_region_law (first
      | (go_simp; go_at_call 106; (with_reducible refine HA.out.mono ?_)
         rintro e w5 ⟨g1, g2, rfl, hz5, hb5⟩
         have HF := Lib.hid (show Below W.heap.size W w5 from ((Below.refl _ W).drew).trans hb5)
         have HZ := Lib.hid hz5
         have h5 := HF.out.size
         have HFIN := Lib.hid (show ZBox (w5.alloc (.cells #[.slice (some ⟨g1, 0, none⟩) n n, .slice (some ⟨g2, 0, none⟩) m m] 28)) w5.heap.size W.heap.size (.slice (some ⟨g1, 0, none⟩) n n) (.slice (some ⟨g2, 0, none⟩) m m) (cl, clipL gl (r - 1)) ∧ Below W.heap.size W (w5.alloc (.cells #[.slice (some ⟨g1, 0, none⟩) n n, .slice (some ⟨g2, 0, none⟩) m m] 28)) ∧ W.heap.size ≤ w5.heap.size from
           ⟨⟨Blk.new _ _ _, hz5.below ((Below.refl _ w5).alloc (Nat.le_refl _) _)⟩, HF.out.alloc h5 _, h5⟩)
         clear hz5 hb5)
      | (go_simp; go_at_call 106; (with_reducible refine HB.out.mono ?_)
         rintro e w5 ⟨g1, g2, rfl, hz5, hb5⟩
         have HF := Lib.hid (show Below W.heap.size W w5 from (((Below.refl _ W).alloc (Nat.le_refl _) _).drew).trans (hb5.mono (by simp)))
         have HZ := Lib.hid hz5
         have HX := Lib.hid (Blk.keep (b := W.heap.size) (show Blk (W.alloc (.cells #[.slice none 0 0, .slice none 0 0] 28)).drew W.heap.size _ _ from Blk.new _ _ _) hb5)
         have q0 := HX.out.two.1; have q1 := HX.out.two.2; have q2 := HX.out.free 0; have q3 := HX.out.free 1
         have h5 := HF.out.size
         have hz6 := ZoneAt.mono hz5 (show W.heap.size ≤ (W.alloc (.cells #[.slice none 0 0, .slice none 0 0] 28)).drew.heap.size by simp)
         have HFIN := Lib.hid (show ZBox ((w5.setCell ⟨W.heap.size, 0, none⟩ (.slice (some ⟨g1, 0, none⟩) n n)).setCell ⟨W.heap.size, 1, none⟩ (.slice (some ⟨g2, 0, none⟩) m m)) W.heap.size W.heap.size (.slice (some ⟨g1, 0, none⟩) n n) (.slice (some ⟨g2, 0, none⟩) m m) (cl, clipL gl (r - 1)) ∧ Below W.heap.size W ((w5.setCell ⟨W.heap.size, 0, none⟩ (.slice (some ⟨g1, 0, none⟩) n n)).setCell ⟨W.heap.size, 1, none⟩ (.slice (some ⟨g2, 0, none⟩) m m)) ∧ W.heap.size ≤ W.heap.size from
           ⟨⟨HX.out.put2 _ _, ⟨ownsRow_setCell_other (ownsRow_setCell_other hz6.1 (HX.out.row_ne hz6.1 (by decide)) _) (HX.out.row_ne hz6.1 (by decide)) _, ownsRow_setCell_other (ownsRow_setCell_other hz6.2 (HX.out.row_ne hz6.2 (by decide)) _) (HX.out.row_ne hz6.2 (by decide)) _⟩⟩,
             (HF.out.setCell (p := ⟨W.heap.size, 0, none⟩) (Nat.le_refl _) _).setCell (p := ⟨W.heap.size, 1, none⟩) (Nat.le_refl _) _, Nat.le_refl _⟩)
         clear hz5 hb5 hz6))
    all_goals
      go_wp2_with fail
      go_meet
      exact ⟨_, _, _, rfl, HFIN.out⟩
  case rest =>
    obtain ⟨bz, g1, g2, rfl, hcut⟩ := hcut
    have HX := Lib.hid hcut.out.1.1
    have HZ := Lib.hid hcut.out.1.2
    have HBL := Lib.hid hcut.out.2.1
    have hbz := hcut.out.2.2
    clear hcut
    have hbzl := HX.out.lt
    have hs2 := HBL.out.size
    have x0 := HX.out.two.1
    have xf := HX.out.free 0
    have HAL := Lib.hid (alone_any (W := wc.drew) (HP.out.maker.keep (HBL.out.drew)))
    obtain ⟨bb, hbb⟩ : ∃ bb, bitZ a = bb := ⟨_, rfl⟩
    have HBB := Lib.hid hbb
    rw [hbb] at HAL
    clear hbb
    go_upto_region 1 with fail
    go_cut [10] (fun v10 wy => v10 = .pointer (some ⟨bz, 0, none⟩) ∧ ∃ (g3 cap3 : Nat), Hid (ZBox wy bz W.heap.size (.slice (some ⟨g3, 0, none⟩) (n + 1) cap3) (.slice (some ⟨g2, 0, none⟩) m m) (ownC cl a k, clipL gl (r - 1)) ∧ Below W.heap.size W wy))
    case first =>
      go_region_law (first
        | (go_simp; go_at_call 108; (with_reducible refine HAL.out.mono ?_)
           rintro e w6 ⟨rfl, hb6⟩
           have hb7 : Below W.heap.size W w6 := HBL.out.drew.trans (hb6.mono HBL.out.drew.size)
           have hx6 : Blk w6 bz #[.slice (some ⟨g1, 0, none⟩) n n, .slice (some ⟨g2, 0, none⟩) m m] 28 := Blk.keep (w := wc.drew) HX.out hb6
           have hz6 : ZoneAt w6 W.heap.size (.slice (some ⟨g1, 0, none⟩) n n) (.slice (some ⟨g2, 0, none⟩) m m) cl (clipL gl (r - 1)) := ZoneAt.below (w := wc.drew) HZ.out hb6
           have h6 := hb6.size
           have h60 : wc.heap.size ≤ w6.heap.size := h6
           have y0 := hx6.two.1
           have hbz6 := hx6.lt
           have yf := hx6.free 0
           have hb8 : Below w6.heap.size w6 (w6.alloc (.cells #[.int .i64 bb, .int .i64 (-1)] 47)) := (Below.refl _ _).alloc (Nat.le_refl _) _
           have hr8 := (hz6.below hb8).1
           rw [HN.out] at hr8
           have HI := Lib.hid (ins_cls g1 n W.heap.size k w6.heap.size 0 1 (cellsP cl) [.int .i64 bb, .int .i64 (-1)] (w6.alloc (.cells #[.int .i64 bb, .int .i64 (-1)] 47)) hr8 (cellsP_one _) hk (by omega) rfl (by decide) (by decide) (by simp [Value.oneCell']) (by simp) (by
             intro j u hu
             rw [World.cell?_alloc_at _ _ _ _ (by simp)]
             simpa using hu))
           have HB8 := Lib.hid (show Below W.heap.size W (w6.alloc (.cells #[.int .i64 bb, .int .i64 (-1)] 47)) from hb7.alloc hb7.size _)
           have HX8 := Lib.hid (hx6.alloc (.cells #[.int .i64 bb, .int .i64 (-1)] 47))
           have HZ8 := Lib.hid (hz6.below hb8)
           clear hb6 hb7 hx6 hz6 hb8 hr8)
        | (go_simp; go_at_call 107; (with_reducible refine HI.out.mono ?_)
           rintro e w9 ⟨g3, cap3, rfl, ho9, hb9⟩
           have HX9 := Lib.hid (HX8.out.keep hb9)
           have h9 := hb9.size
           have u0 := HX9.out.two.1
           have uf := HX9.out.free 0
           have HB9 := Lib.hid (HB8.out.trans (hb9.mono HB8.out.size))
           have HR9 := Lib.hid (owns_mono ho9 HB8.out.size)
           have HZ9 := Lib.hid (HZ8.out.below hb9)
           clear ho9 hb9))
      all_goals
        have HFIN := Lib.hid (show ZBox (w9.setCell ⟨bz, 0, none⟩ (.slice (some ⟨g3, 0, none⟩) (n + 1) cap3)) bz W.heap.size (.slice (some ⟨g3, 0, none⟩) (n + 1) cap3) (.slice (some ⟨g2, 0, none⟩) m m) (ownC cl a k, clipL gl (r - 1)) ∧ Below W.heap.size W (w9.setCell ⟨bz, 0, none⟩ (.slice (some ⟨g3, 0, none⟩) (n + 1) cap3)) from
          ⟨⟨HX9.out.store 0 _, by
            refine ⟨?_, ownsRow_setCell_other HZ9.out.2 (HX9.out.row_ne HZ9.out.2 (by decide)) _⟩
            show World.ownsRow _ _ _ _ _ (ownC cl a k).length (cellsP (ownC cl a k))
            rw [ownC_len, HN.out, ownC_cells, HBB.out]
            exact ownsRow_setCell_other HR9.out (HX9.out.row_ne HR9.out (by decide)) _⟩, HB9.out.setCell (p := ⟨bz, 0, none⟩) hbz _⟩)
        go_wp2_with fail
        go_meet
        exact ⟨rfl, _, _, HFIN.out⟩
    case rest =>
      clear x0 xf HX HZ HBL HAL hbzl hs2
      obtain ⟨rfl, g3, cap3, hcut⟩ := hcut
      have HX := Lib.hid hcut.out.1.1
      have HZ := Lib.hid hcut.out.1.2
      have HBL := Lib.hid hcut.out.2
      have HRE := Lib.hid (HR.out.below HBL.out)
      have hs2 := HBL.out.size
      have hr2' := HZ.out.2
      rw [show (ownC cl a k, clipL gl (r - 1)).2 = clipL gl (r - 1) from rfl, clipL_len, HM.out] at hr2'
      have HRP := Lib.hid (rep_any g2 m W.heap.size f u (.slice gad gk gk) (clipL gl (r - 1)) news wc hr2' (by omega) hs2 (by rw [← HM.out]; exact HRE.out))
      obtain ⟨L, hL⟩ : ∃ L, (repG (clipL gl (r - 1)) f u news) = L := ⟨_, rfl⟩
      have HLL := Lib.hid hL
      rw [hL] at HRP
      obtain ⟨q, hq⟩ : ∃ q, L.length = q := ⟨_, rfl⟩
      have HQ := Lib.hid hq
      rw [hq] at HRP
      have x1 := HX.out.two.2
      clear hcut hr2' hL hq
      go_wp2_with fail
      refine HRP.out.mono ?_
      rintro e w8 ⟨g4, cap4, rfl, ho8, hb8⟩
      have hx8 := HX.out.keep hb8
      have hz8 := HZ.out.below hb8
      have hb88 := HBL.out.trans (hb8.mono HBL.out.size)
      have y0 := hx8.two.2
      have yf := hx8.free 1
      have hx9 := hx8.store 1 (.slice (some ⟨g4, 0, none⟩) q cap4)
      have hz9 : ZoneAt (w8.setCell ⟨bz, 1, none⟩ (.slice (some ⟨g4, 0, none⟩) q cap4)) W.heap.size (.slice (some ⟨g3, 0, none⟩) (n + 1) cap3) (.slice (some ⟨g4, 0, none⟩) q cap4) (ownC cl a k) L :=
        ⟨ownsRow_setCell_other hz8.1 (hx8.row_ne hz8.1 (by decide)) _, by rw [HQ.out]; exact ownsRow_setCell_other ho8 (hx8.row_ne ho8 (by decide)) _⟩
      have hb9 : Below W.heap.size W (w8.setCell ⟨bz, 1, none⟩ (.slice (some ⟨g4, 0, none⟩) q cap4)) := hb88.setCell (p := ⟨bz, 1, none⟩) hbz _
      have HB9 := Lib.hid hb9
      obtain ⟨W9, hW9⟩ : ∃ W9, w8.setCell ⟨bz, 1, none⟩ (.slice (some ⟨g4, 0, none⟩) q cap4) = W9 := ⟨_, rfl⟩
      rw [hW9] at hx9 hz9 HB9
      have z0 := hx9.two.1
      have z1 : W9.cell? ⟨bz, 1, none⟩ = some (.slice (some ⟨g4, 0, none⟩) q cap4) := hx9.cell rfl
      have hp9 := HP.out.below HB9.out.drew
      have m4 : W9.cell? ⟨bm, 4, none⟩ = some (tellV bo) := (HP.out.maker.keep HB9.out).cell rfl
      unfold tellV at m4
      have HT := Lib.hid (tell_any (W := W9.drew) (c1 := .slice (some ⟨g3, 0, none⟩) (n + 1) cap3) (c2 := .slice (some ⟨g4, 0, none⟩) q cap4) (z := (ownC cl a k, L)) hp9.box hp9.zones ⟨owns_mono (show W9.drew.ownsRow _ _ _ _ _ _ from hz9.1) HP.out.hb, owns_mono (show W9.drew.ownsRow _ _ _ _ _ _ from hz9.2) HP.out.hb⟩ hp9.hb hl)
      have HP9 := Lib.hid hp9
      clear ho8 hb8 hx8 hz8 hb88 hx9 hz9 hb9 hp9 HX HZ HBL HRE HRP hs2
      go_wp2_with fail
      go_region_law (first
        | (go_simp; go_at_call 48; (with_reducible refine HT.out.mono ?_)
           rintro e w10 ⟨rfl, hfin⟩
           have HFIN := Lib.hid hfin
           clear hfin))
      all_goals
        go_wp2
        first
        | go_end0
        | ((try simp only [Exit.inBlock, Exit.then]); refine bodyPost_ret (results_none rfl _ _ _) rfl ?_)
        obtain ⟨v', hx, hz, hk⟩ := HFIN.out
        exact ⟨rfl, v', HP9.out.step hk hx (by unfold ownZ; rw [HLL.out]; exact hz), (KeepT.of_below HB9.out.drew).trans hk⟩

end Go.Proofs.YtkkoooagamadjaaGreatDoor
