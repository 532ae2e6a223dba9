/- The maker of package put: in tells a zone in which the attribute is in a class. slices.Backward over a slice of numbers: the iterator and its contract. Plain laws of the splits of a gap: which pairs they are, in order, each once; no program in sight. -/
import Derived.Test.YtkkoooagamadjaaGreatDoorPk14
import Derived.Test.YtkkoooagamadjaaGreatDoorPk02
import Derived.RangeFuncWrites
import Derived.Test.YtkkoooagamadjaaGreatDoorPk05

namespace Go.Proofs.YtkkoooagamadjaaGreatDoor
open Go.RowKit

/-- the zone that is told -/
def inCZ (cl : List (Int × Int)) (gl : List Int) (a r : Int) (i : Nat) (x y : Int) : Zn := (cl.set i (putZ x a true, y), clipL gl (r - 1))

set_option maxRecDepth 100000 in
set_option maxHeartbeats 4000000 in
theorem in_run {w0 W : World} {base bo bm : Nat} {v1 v2 v : Value} {cl : List (Int × Int)} {gl : List Int} {a r : Int} {zs : List Zn} (h : PI w0 base bo bm v1 v2 cl gl a r v zs W) (hcl : cl.length ≤ 60000) (hgl : gl.length ≤ 60000) (hr1 : 1 ≤ r) (hr2 : r ≤ 1000) (hl : zs.length ≤ 100000)
    (i : Nat) (x y : Int) (hx : cl[i]? = some (x, y)) :
    Calls Tryz.prog 83 #[.pointer (some ⟨bm, 0, none⟩), .int .i64 i] W fun e W' => e = .returned (.tuple #[]) ∧ ∃ v', PI w0 base bo bm v1 v2 cl gl a r v' (zs ++ [inCZ cl gl a r i x y]) W' ∧ KeepT base bo W W' := by
  have hk : i < cl.length := (List.getElem?_eq_some_iff.1 hx).1
  obtain ⟨ad1, k1, e1⟩ := h.zin.1.len
  obtain ⟨ad2, k2, e2⟩ := h.zin.2.len
  have HP := Lib.hid h
  have HXX := Lib.hid hx
  obtain ⟨n, hn⟩ : ∃ n, cl.length = n := ⟨_, rfl⟩
  obtain ⟨m, hm⟩ : ∃ m, gl.length = m := ⟨_, rfl⟩
  have HN := Lib.hid hn; have HM := Lib.hid hm
  have hblt := h.maker.lt
  have c0 : W.cell? ⟨bm, 0, none⟩ = some (.slice ad1 n k1) := by rw [← hn, ← e1]; exact h.maker.cell rfl
  have c1 : W.cell? ⟨bm, 1, none⟩ = some (.slice ad2 m k2) := by rw [← hm, ← e2]; exact h.maker.cell rfl
  have c3 : W.cell? ⟨bm, 3, none⟩ = some (.int .i64 r) := h.maker.cell rfl
  have hwr : IntKind.i64.wrap (r - 1) = r - 1 := by rw [IntKind.wrap_i64]; omega
  have hbA : Below W.heap.size W W.drew := (Below.refl _ W).drew
  have hbB : Below W.heap.size W (W.alloc (.cells #[.slice none 0 0, .slice none 0 0] 28)).drew := ((Below.refl _ W).alloc (Nat.le_refl _) _).drew
  have hA := dropClipI_any v1 v2 cl gl (r - 1) W.drew (h.zin.below hbA) (by omega) (by omega)
  have hB := dropClipI_any v1 v2 cl gl (r - 1) (W.alloc (.cells #[.slice none 0 0, .slice none 0 0] 28)).drew (h.zin.below hbB) (by omega) (by omega)
  rw [hn, hm] at hA hB
  rw [hn] at e1; rw [hm] at e2
  rw [e1, e2] at hA hB
  have HA := Lib.hid hA; have HB := Lib.hid hB
  rw [hn] at hk hcl; rw [hm] at hgl
  have HE1 := Lib.hid e1; have HE2 := Lib.hid e2
  clear h hx hA hB hn hm hbA hbB e1 e2
  go_enter Tryz.func83, Tryz.ntmps83
  go_upto_region 0 with fail
  go_cut [4] (fun v10 wx => ∃ (bz g1 g2 : Nat), v10 = .pointer (some ⟨bz, 0, none⟩) ∧ Hid (ZBox wx bz W.heap.size (.slice (some ⟨g1, 0, none⟩) n n) (.slice (some ⟨g2, 0, none⟩) m m) (cl, clipL gl (r - 1)) ∧ Below W.heap.size W wx ∧ W.heap.size ≤ bz))
  case first =>
    go_region_law (first
      | (go_simp; go_at_call 106; (with_reducible refine HA.out.mono ?_)
         rintro e w5 ⟨g1, g2, rfl, hz5, hb5⟩
         have HF := Lib.hid (show Below W.heap.size W w5 from ((Below.refl _ W).drew).trans hb5)
         have HZ := Lib.hid hz5
         have h5 := HF.out.size
         have HFIN := Lib.hid (show ZBox (w5.alloc (.cells #[.slice (some ⟨g1, 0, none⟩) n n, .slice (some ⟨g2, 0, none⟩) m m] 28)) w5.heap.size W.heap.size (.slice (some ⟨g1, 0, none⟩) n n) (.slice (some ⟨g2, 0, none⟩) m m) (cl, clipL gl (r - 1)) ∧ Below W.heap.size W (w5.alloc (.cells #[.slice (some ⟨g1, 0, none⟩) n n, .slice (some ⟨g2, 0, none⟩) m m] 28)) ∧ W.heap.size ≤ w5.heap.size from
           ⟨⟨Blk.new _ _ _, hz5.below ((Below.refl _ w5).alloc (Nat.le_refl _) _)⟩, HF.out.alloc h5 _, h5⟩)
         clear hz5 hb5)
      | (go_simp; go_at_call 106; (with_reducible refine HB.out.mono ?_)
         rintro e w5 ⟨g1, g2, rfl, hz5, hb5⟩
         have HF := Lib.hid (show Below W.heap.size W w5 from (((Below.refl _ W).alloc (Nat.le_refl _) _).drew).trans (hb5.mono (by simp)))
         have HZ := Lib.hid hz5
         have HX := Lib.hid (Blk.keep (b := W.heap.size) (show Blk (W.alloc (.cells #[.slice none 0 0, .slice none 0 0] 28)).drew W.heap.size _ _ from Blk.new _ _ _) hb5)
         have q0 := HX.out.two.1; have q1 := HX.out.two.2; have q2 := HX.out.free 0; have q3 := HX.out.free 1
         have h5 := HF.out.size
         have hz6 := ZoneAt.mono hz5 (show W.heap.size ≤ (W.alloc (.cells #[.slice none 0 0, .slice none 0 0] 28)).drew.heap.size by simp)
         have HFIN := Lib.hid (show ZBox ((w5.setCell ⟨W.heap.size, 0, none⟩ (.slice (some ⟨g1, 0, none⟩) n n)).setCell ⟨W.heap.size, 1, none⟩ (.slice (some ⟨g2, 0, none⟩) m m)) W.heap.size W.heap.size (.slice (some ⟨g1, 0, none⟩) n n) (.slice (some ⟨g2, 0, none⟩) m m) (cl, clipL gl (r - 1)) ∧ Below W.heap.size W ((w5.setCell ⟨W.heap.size, 0, none⟩ (.slice (some ⟨g1, 0, none⟩) n n)).setCell ⟨W.heap.size, 1, none⟩ (.slice (some ⟨g2, 0, none⟩) m m)) ∧ W.heap.size ≤ W.heap.size from
           ⟨⟨HX.out.put2 _ _, ⟨ownsRow_setCell_other (ownsRow_setCell_other hz6.1 (HX.out.row_ne hz6.1 (by decide)) _) (HX.out.row_ne hz6.1 (by decide)) _, ownsRow_setCell_other (ownsRow_setCell_other hz6.2 (HX.out.row_ne hz6.2 (by decide)) _) (HX.out.row_ne hz6.2 (by decide)) _⟩⟩,
             (HF.out.setCell (p := ⟨W.heap.size, 0, none⟩) (Nat.le_refl _) _).setCell (p := ⟨W.heap.size, 1, none⟩) (Nat.le_refl _) _, Nat.le_refl _⟩)
         clear hz5 hb5 hz6))
    all_goals
      go_wp2_with fail
      go_meet
      exact ⟨_, _, _, rfl, HFIN.out⟩
  case rest =>
    obtain ⟨bz, g1, g2, rfl, hcut⟩ := hcut
    have HX := Lib.hid hcut.out.1.1
    have HZ := Lib.hid hcut.out.1.2
    have HBL := Lib.hid hcut.out.2.1
    have hbz := hcut.out.2.2
    clear hcut
    have hbzl := HX.out.lt
    have hs2 := HBL.out.size
    have x0 := HX.out.two.1
    have hmx : Tryz.prog.follows .mixedOrders = true := by kernel_rfl
    obtain ⟨bb, hbb⟩ : ∃ bb, putZ x a true = bb := ⟨_, rfl⟩
    have HBB := Lib.hid hbb
    have c2 : wc.cell? ⟨bm, 2, none⟩ = some (.int .i64 a) := (HP.out.maker.keep HBL.out).cell rfl
    have hz1 := HZ.out.1
    rw [show (cl, clipL gl (r - 1)).1 = cl from rfl, HN.out] at hz1
    have cx := cellsP_get _ _ _ HXX.out
    have d1 : wc.cell? ⟨g1, i * 2, none⟩ = some (.int .i64 x) := by rw [hz1.cellAt _ (by omega)]; exact cx.1
    have df := owns_frozen hz1 (i * 2)
    obtain ⟨cur1, q1, b1⟩ := owns_row hz1
    have hg1 : g1 < wc.heap.size := (Array.getElem?_eq_some_iff.1 q1).1
    have hne1 : bz ≠ g1 := fun e => by subst e; have := HX.out; unfold Blk at this; rw [q1] at this; cases this
    have hpi : (0 : Int) ≤ (i : Int) := by omega
    have hpn : (i : Int) < (n : Int) := by omega
    have HZ1 := Lib.hid hz1
    clear cx hbb hz1 q1
    go_upto_region 1 with fail
    refine wp_region_still_tail 16 hmx (by kernel_rfl) ?_
    simp only [List.take_succ_cons, List.take_zero, List.drop_succ_cons, List.drop_zero]
    repeat still_step
    still_call ((with_any x a _).mono fun e w' h => ⟨h.1, h.2.symm⟩)
    repeat still_step
    refine wpStill_nil ?_
    change wpList _ _ _ _ _ wc.drew
    rw [HBB.out]
    have hx9 : Blk (wc.drew.setCell ⟨g1, i * 2, none⟩ (.int .i64 bb)) bz _ _ := Blk.other (w := wc.drew) HX.out hne1 (.int .i64 bb)
    have hz9 : ZoneAt (wc.drew.setCell ⟨g1, i * 2, none⟩ (.int .i64 bb)) W.heap.size (.slice (some ⟨g1, 0, none⟩) n n) (.slice (some ⟨g2, 0, none⟩) m m) (cl.set i (bb, y)) (clipL gl (r - 1)) := by
      refine ⟨?_, ?_⟩
      · rw [List.length_set, HN.out, cellsP_set1 _ _ _ _ _ HXX.out]
        exact owns_set (owns_drew HZ1.out) _ _
      · refine ownsRow_setCell_other (owns_drew HZ.out.2) ?_ _
        intro e
        have hz2 := HZ.out.2
        rw [show (cl, clipL gl (r - 1)).2.length = m by show (clipL gl (r - 1)).length = m; rw [clipL_len, HM.out]] at hz2
        obtain ⟨cur2, q2, b2⟩ := owns_row hz2
        obtain ⟨cur1, q1, b1⟩ := owns_row HZ1.out
        have e2 : g2 = g1 := by simpa [Value.ownBlock] using e
        subst e2
        rw [q1] at q2; cases q2
    have hb9 : Below W.heap.size W (wc.drew.setCell ⟨g1, i * 2, none⟩ (.int .i64 bb)) := HBL.out.drew.setCell (p := ⟨g1, i * 2, none⟩) b1 _
    have HB9 := Lib.hid hb9
    obtain ⟨W9, hW9⟩ : ∃ W9, wc.drew.setCell ⟨g1, i * 2, none⟩ (.int .i64 bb) = W9 := ⟨_, rfl⟩
    rw [hW9] at hx9 hz9 HB9
    have z0 := hx9.two.1
    have z1 : W9.cell? ⟨bz, 1, none⟩ = some (.slice (some ⟨g2, 0, none⟩) m m) := hx9.cell rfl
    have hp9 := HP.out.below HB9.out.drew
    have m4 : W9.cell? ⟨bm, 4, none⟩ = some (tellV bo) := (HP.out.maker.keep HB9.out).cell rfl
    unfold tellV at m4
    have HT := Lib.hid (tell_any (W := W9.drew) (c1 := .slice (some ⟨g1, 0, none⟩) n n) (c2 := .slice (some ⟨g2, 0, none⟩) m m) (z := (cl.set i (bb, y), clipL gl (r - 1))) hp9.box hp9.zones ⟨owns_mono (show W9.drew.ownsRow _ _ _ _ _ _ from hz9.1) HP.out.hb, owns_mono (show W9.drew.ownsRow _ _ _ _ _ _ from hz9.2) HP.out.hb⟩ hp9.hb hl)
    have HP9 := Lib.hid hp9
    clear hx9 hz9 hb9 hp9 HX HZ HBL hs2
    go_wp2_with fail
    go_region_law (first
      | (go_simp; go_at_call 48; (with_reducible refine HT.out.mono ?_)
         rintro e w10 ⟨rfl, hfin⟩
         have HFIN := Lib.hid hfin
         clear hfin))
    all_goals
      go_wp2
      first
      | go_end0
      | ((try simp only [Exit.inBlock, Exit.then]); refine bodyPost_ret (results_none rfl _ _ _) rfl ?_)
      obtain ⟨v', hx, hz, hk⟩ := HFIN.out
      exact ⟨rfl, v', HP9.out.step hk hx (by unfold inCZ; rw [HBB.out]; exact hz), (KeepT.of_below HB9.out.drew).trans hk⟩

end Go.Proofs.YtkkoooagamadjaaGreatDoor

namespace Go.Proofs.YtkkoooagamadjaaGreatDoor
open Go.RowKit Go.Shelf
attribute [local go_sem] Oper.semAt_some

/-- what comes: place and number, from behind -/
def backL (L : List Int) (k : Nat) : List (Int × Int) := (List.range k).map fun j => (((L.length - 1 - j : Nat) : Int), L.getD (L.length - 1 - j) 0)
theorem backL_succ (L : List Int) (k : Nat) : backL L (k + 1) = backL L k ++ [(((L.length - 1 - k : Nat) : Int), L.getD (L.length - 1 - k) 0)] := by simp [backL, List.range_succ]
theorem backL_len (L : List Int) (k : Nat) : (backL L k).length = k := by simp [backL]

/-- two blocks stay -/
def Two (bs g n : Nat) (W W' : World) : Prop := ∀ k, (k = bs ∨ k = g) → k < n → W'.heap[k]? = W.heap[k]?
theorem Two.trans {bs g n : Nat} {A B C : World} (h : Two bs g n A B) (k : Two bs g n B C) : Two bs g n A C := fun q hq hn => (k q hq hn).trans (h q hq hn)

set_option maxRecDepth 10000 in
set_option maxHeartbeats 1000000 in
theorem back_seq (m bs g n cap : Nat) (L : List Int) (w : World) (hn : L.length = n) (hn2 : n ≤ 100000) (hbs : Blk w bs #[.slice (some ⟨g, 0, none⟩) n cap] 26) (base : Nat) (hrow : w.ownsRow base 3 1 (.slice (some ⟨g, 0, none⟩) n cap) n (ints L)) :
    SeqStopsK Fence.wide m Tryz.prog 110 #[.pointer (some ⟨bs, 0, none⟩)] (fun p : Int × Int => #[.int .i64 p.1, .int .i64 p.2]) (Two bs g w.heap.size) (fun xs => xs = backL L n) (fun _ => True) (n + 1) w := by
  intro l J Jx W hB hJ hJx hY h0
  have hgl : g < w.heap.size := by
    obtain ⟨cur, q, _⟩ := owns_row hrow
    exact (Array.getElem?_eq_some_iff.1 q).1
  have HN := Lib.hid hn
  have HR := Lib.hid hrow
  have HBS := Lib.hid hbs
  have hbl := hbs.lt
  have HY := Lib.hid hY
  have HT : Hid (Two bs g w.heap.size w W) := fun q hq hn => hB.block q hn
  have HF : Hid (∀ A : World, Two bs g w.heap.size w A → A.cell? ⟨bs, 0, none⟩ = some (.slice (some ⟨g, 0, none⟩) n cap) ∧ ∀ k, k < n → A.cell? ⟨g, k, none⟩ = some (.int .i64 (L.getD k 0))) := by
    intro A hA
    refine ⟨(World.cell?_of_block (a := ⟨bs, 0, none⟩) (hA bs (.inl rfl) hbl)).trans (hbs.cell rfl), fun k hk => ?_⟩
    rw [World.cell?_of_block (a := ⟨g, k, none⟩) (hA g (.inr rfl) hgl), hrow.cellAt _ (by omega)]
    simp [ints, List.getD_eq_getElem?_getD, List.getElem?_eq_getElem (show k < L.length by omega)]
  clear hY hJ hJx hbs hrow hB hn
  refine callsIn_of_wp Tryz.func110 rfl trivial ?_ rfl
  simp only [Tryz.ntmps110, List.size_toArray, List.length_cons, List.length_nil, Nat.reduceAdd, Nat.reduceSub, Array.replicate_succ, Array.replicate_zero, List.push_toArray, List.append_toArray, List.nil_append, List.cons_append]
  have c0 := (HF.out W HT.out).1
  gi_wp2
  gi_loopw [3] (fun i wr => ∃ k : Nat, k ≤ n ∧ i = .int .i64 ((n : Int) - 1 - (k : Int)) ∧ Hid (J (backL L k) wr) ∧ Hid (Two bs g w.heap.size w wr)) (fun i _ => ((intOf i) + 1).toNat)
  case atStart => exact ⟨0, Nat.zero_le _, by simp, h0, HT.out⟩
  case round =>
    clear c0
    obtain ⟨k, hk, rfl, hj, ht⟩ := hrel
    by_cases hlt : k < n
    · have c1 := (HF.out wr ht.out).1
      have c2 := (HF.out wr ht.out).2 (n - 1 - k) (by omega)
      have e1 : ((n : Int) - 1 - (k : Int)) = ((n - 1 - k : Nat) : Int) := by omega
      obtain ⟨q, hq⟩ : ∃ q, n - 1 - k = q := ⟨_, rfl⟩
      obtain ⟨y, hy⟩ : ∃ y, L.getD q 0 = y := ⟨_, rfl⟩
      rw [hq] at e1 c2
      rw [hy] at c2
      rw [e1]
      have hq2 : q < n := by omega
      obtain ⟨fn, tmps, assign, body, hyy, hR⟩ := HY.out (backL L k) ((q : Int), y) wr hj.out (by rw [backL_len]; omega)
      have hS : Hid (backL L k ++ [((q : Int), y)] = backL L (k + 1)) := by unfold Hid; rw [backL_succ, HN.out, hq, hy]
      have HR1 := Lib.hid hR
      have hge : (0 : Int) ≤ (q : Int) := by omega
      clear hR hy e1
      gi_wp2
      refine ⟨fun h => by simp [Fence.wide] at h, HR1.out.mono ?_⟩
      intro e w' hRe
      rcases hRe with ⟨rfl, hj', hk'⟩ | ⟨rfl, hx'⟩
      · have HJ := Lib.hid hj'
        have HK := Lib.hid (ht.out.trans hk')
        clear hj' hk' hj ht c1 c2 hyy HR1
        gi_wp2
        go_roundw
        case rel =>
          refine ⟨k + 1, by omega, ?_, ?_, HK⟩
          · apply int_eq; omega
          · rw [← hS.out]; exact HJ
        case measure => simp [intOf]
      · have HJ := Lib.hid hx'
        clear hx' hj ht c1 c2 hyy HR1
        gi_wp2
        refine bodyPost_ret (results_none rfl _ _ _) rfl ?_
        exact ⟨⟨_, rfl⟩, .inr ⟨_, trivial, HJ.out⟩⟩
    · obtain rfl : k = n := by omega
      have hge : ¬ (0 : Int) ≤ ((k : Int) - 1 - (k : Int)) := by omega
      gi_wp2
      refine bodyPost_end (results_none rfl _ _ _) rfl ?_
      exact ⟨⟨_, rfl⟩, .inl hj.out⟩

end Go.Proofs.YtkkoooagamadjaaGreatDoor

namespace Go.Proofs.YtkkoooagamadjaaGreatDoor
open Go.RowKit

def rowP (p : Int × Int → Bool) (a k : Nat) : List (Int × Int) := ((List.range k).map fun b : Nat => ((a : Int), (b : Int))).filter p
def gridK (p : Int × Int → Bool) (h k : Nat) : List (Int × Int) := (List.range k).flatMap fun a => rowP p a (h + 1)
def gridP (h : Nat) (p : Int × Int → Bool) : List (Int × Int) := gridK p h (h + 1)

theorem rowP_succ (p : Int × Int → Bool) (a k : Nat) : rowP p a (k + 1) = rowP p a k ++ if p (a, k) then [((a : Int), (k : Int))] else [] := by
  unfold rowP
  rw [List.range_succ, List.map_append, List.filter_append]
  congr 1
  by_cases h : p (a, k) = true
  · simp [h]
  · simp [h]
theorem gridK_succ (p : Int × Int → Bool) (h k : Nat) : gridK p h (k + 1) = gridK p h k ++ rowP p k (h + 1) := by
  unfold gridK; rw [List.range_succ, List.flatMap_append]; simp

theorem mem_rowP (p : Int × Int → Bool) (a k : Nat) (x : Int × Int) : x ∈ rowP p a k ↔ (∃ b : Nat, b < k ∧ x = ((a : Int), (b : Int))) ∧ p x = true := by
  unfold rowP
  rw [List.mem_filter, List.mem_map]
  constructor
  · rintro ⟨⟨b, hb, rfl⟩, hp⟩; exact ⟨⟨b, by simpa using hb, rfl⟩, hp⟩
  · rintro ⟨⟨b, hb, rfl⟩, hp⟩; exact ⟨⟨b, by simpa using hb, rfl⟩, hp⟩
theorem mem_gridP (p : Int × Int → Bool) (h : Nat) (x : Int × Int) : x ∈ gridP h p ↔ (∃ a b : Nat, a ≤ h ∧ b ≤ h ∧ x = ((a : Int), (b : Int))) ∧ p x = true := by
  unfold gridP gridK
  rw [List.mem_flatMap]
  constructor
  · rintro ⟨a, ha, hx⟩
    obtain ⟨⟨b, hb, rfl⟩, hp⟩ := (mem_rowP p a _ x).1 hx
    exact ⟨⟨a, b, by simp at ha; omega, by omega, rfl⟩, hp⟩
  · rintro ⟨⟨a, b, ha, hb, rfl⟩, hp⟩
    exact ⟨a, by simp; omega, (mem_rowP p a _ _).2 ⟨⟨b, by omega, rfl⟩, hp⟩⟩

theorem rowP_sorted (p : Int × Int → Bool) (a k : Nat) : (rowP p a k).Pairwise ltP := by
  unfold rowP
  apply List.Pairwise.filter
  rw [List.pairwise_map]
  exact List.pairwise_lt_range.imp fun h => .inr ⟨rfl, by simpa using h⟩
theorem gridP_sorted (h : Nat) (p : Int × Int → Bool) : (gridP h p).Pairwise ltP := by
  unfold gridP gridK
  generalize h + 1 = k
  have : ∀ m : Nat, ((List.range m).flatMap fun a => rowP p a k).Pairwise ltP := by
    intro m
    induction m with
    | zero => simp
    | succ m ih =>
      rw [List.range_succ, List.flatMap_append]
      refine List.pairwise_append.2 ⟨ih, by simpa using rowP_sorted p m k, fun x hx y hy => ?_⟩
      obtain ⟨a, ha, hx'⟩ := List.mem_flatMap.1 hx
      obtain ⟨⟨b, _, rfl⟩, _⟩ := (mem_rowP p a k x).1 hx'
      simp only [List.flatMap_cons, List.flatMap_nil, List.append_nil] at hy
      obtain ⟨⟨b', _, rfl⟩, _⟩ := (mem_rowP p m k y).1 hy
      simp at ha
      exact .inl (by simpa using ha)
  exact this k

theorem ltP_irrefl (a : Int × Int) : ¬ ltP a a := by unfold ltP; omega
theorem ltP_asymm {a b : Int × Int} (h : ltP a b) : ¬ ltP b a := by unfold ltP at *; omega
theorem sorted_uniq : ∀ {l m : List (Int × Int)}, l.Pairwise ltP → m.Pairwise ltP → (∀ x, x ∈ l ↔ x ∈ m) → l = m
  | [], [], _, _, _ => rfl
  | [], b :: m, _, _, h => by have := (h b).2 (by simp); simp at this
  | a :: l, [], _, _, h => by have := (h a).1 (by simp); simp at this
  | a :: l, b :: m, hl, hm, h => by
    obtain ⟨la, ll⟩ := List.pairwise_cons.1 hl
    obtain ⟨mb, mm⟩ := List.pairwise_cons.1 hm
    have e : a = b := by
      rcases List.mem_cons.1 ((h a).1 (by simp)) with e | h1
      · exact e
      · rcases List.mem_cons.1 ((h b).2 (by simp)) with e | h2
        · exact e.symm
        · exact absurd (la b h2) (ltP_asymm (mb a h1))
    subst e
    rw [sorted_uniq ll mm fun x => ?_]
    constructor
    · intro hx
      rcases List.mem_cons.1 ((h x).1 (List.mem_cons_of_mem _ hx)) with e | h1
      · subst e; exact absurd (la x hx) (ltP_irrefl x)
      · exact h1
    · intro hx
      rcases List.mem_cons.1 ((h x).2 (List.mem_cons_of_mem _ hx)) with e | h1
      · subst e; exact absurd (mb x hx) (ltP_irrefl x)
      · exact h1

theorem sort_grid {xs l' : List (Int × Int)} {h : Nat} {p : Int × Int → Bool} (hs : SortP (firstsP xs) l') (hm : ∀ x, x ∈ xs ↔ x ∈ gridP h p) : l' = gridP h p := by
  refine sorted_uniq ?_ (gridP_sorted h p) fun x => ?_
  · have hn : l'.Nodup := hs.1.symm.nodup (firstsP_nodup xs)
    refine (hs.2.and hn).imp fun {a b} hab => ?_
    obtain ⟨h1, h2⟩ := hab
    unfold leP at *
    have : ¬ (a.1 = b.1 ∧ a.2 = b.2) := fun e => h2 (Prod.ext e.1 e.2)
    unfold ltP; omega
  · rw [hs.1.mem_iff, firstsP_mem, hm]

theorem adj_mem (l : List (Int × Int)) (h : ((-1, -1) : Int × Int) ∉ l) (x : Int × Int) : x ∈ adj l ↔ x ∈ l := by
  induction l using snoc_ind generalizing x with
  | h0 => simp [adj]
  | h1 l p ih =>
    have hl : ((-1, -1) : Int × Int) ∉ l := fun hc => h (by simp [hc])
    have hp : p ≠ (-1, -1) := fun hc => h (by simp [hc])
    rw [adj_snoc]
    unfold adjA
    split
    · rename_i hlast
      rw [ih hl]
      simp only [List.mem_append, List.mem_singleton]
      constructor
      · exact .inl
      · rintro (h1 | rfl)
        · exact h1
        · rw [← ih hl]
          unfold lastP at hlast
          cases hg : (adj l).getLast? with
          | none => rw [hg] at hlast; exact absurd hlast.symm hp
          | some y =>
            rw [hg] at hlast
            simp at hlast; subst hlast
            exact List.mem_of_getLast? hg
    · simp [ih hl]
theorem adj_len (l : List (Int × Int)) : (adj l).length ≤ l.length := by
  induction l using snoc_ind with
  | h0 => simp [adj]
  | h1 l p ih => rw [adj_snoc]; unfold adjA; split <;> simp <;> omega

theorem rawP_len (c h : Nat) (f : Bool) : (rawP c h f).length ≤ c + h + 1 := by
  unfold rawP; cases f <;> simp <;> omega

/-- what the program's splits are made of -/
theorem raw_full (h : Nat) (x : Int × Int) : x ∈ rawP (2 * h + 1) h true ↔ (∃ a : Nat, a < h ∧ x = ((a : Int), (h : Int))) ∨ ∃ b : Nat, b ≤ h ∧ x = ((h : Int), (b : Int)) := by
  unfold rawP
  simp only [if_true, List.mem_append, List.mem_map, List.mem_range]
  constructor
  · rintro (⟨a, ha, rfl⟩ | ⟨b, hb, rfl⟩)
    · exact .inl ⟨a, by omega, by unfold ptP P.lim; ext <;> simp <;> omega⟩
    · exact .inr ⟨b, by omega, by unfold P.lim; ext <;> simp <;> omega⟩
  · rintro (⟨a, ha, rfl⟩ | ⟨b, hb, rfl⟩)
    · exact .inl ⟨a, by omega, by unfold ptP P.lim; ext <;> simp <;> omega⟩
    · exact .inr ⟨b, by omega, by unfold P.lim; ext <;> simp <;> omega⟩
theorem true_full (h n : Nat) (hn : 2 * h + 1 ≤ n) (x : Int × Int) : x ∈ (List.range n).map (ptP n h) ↔ (∃ a : Nat, a < h ∧ x = ((a : Int), (h : Int))) ∨ ∃ b : Nat, b ≤ h ∧ x = ((h : Int), (b : Int)) := by
  simp only [List.mem_map, List.mem_range]
  constructor
  · rintro ⟨a, ha, rfl⟩
    by_cases hah : a < h
    · exact .inl ⟨a, hah, by unfold ptP P.lim; ext <;> simp <;> omega⟩
    · refine .inr ⟨min (n - 1 - a) h, by omega, by unfold ptP P.lim; ext <;> simp <;> omega⟩
  · rintro (⟨a, ha, rfl⟩ | ⟨b, hb, rfl⟩)
    · exact ⟨a, by omega, by unfold ptP P.lim; ext <;> simp <;> omega⟩
    · exact ⟨n - 1 - b, by omega, by unfold ptP P.lim; ext <;> simp <;> omega⟩
theorem raw_part (c h : Nat) (x : Int × Int) : x ∈ rawP c h false ↔ x ∈ (List.range c).map (ptP c h) := by
  unfold rawP
  simp only [Bool.false_eq_true, if_false, List.mem_append, List.mem_map, List.mem_range]
  constructor
  · rintro (⟨a, ha, rfl⟩ | ⟨k, hk, rfl⟩)
    · exact ⟨a, by omega, rfl⟩
    · exact ⟨h + k, by omega, rfl⟩
  · rintro ⟨a, ha, rfl⟩
    by_cases hah : a < h
    · exact .inl ⟨a, by omega, rfl⟩
    · exact .inr ⟨a - h, by omega, by rw [show h + (a - h) = a by omega]⟩

theorem pt_box (c h a : Nat) (ha : a < c) : ∃ u v : Nat, u ≤ h ∧ v ≤ h ∧ ptP c h a = ((u : Int), (v : Int)) :=
  ⟨min a h, min (c - 1 - a) h, by omega, by omega, by unfold ptP P.lim; ext <;> simp <;> omega⟩
theorem raw_box (c h : Nat) (f : Bool) (x : Int × Int) (hx : x ∈ rawP c h f) : ∃ u v : Nat, u ≤ h ∧ v ≤ h ∧ x = ((u : Int), (v : Int)) := by
  cases f
  · obtain ⟨a, ha, rfl⟩ := List.mem_map.1 ((raw_part c h x).1 hx)
    exact pt_box c h a (by simpa using ha)
  · unfold rawP at hx
    simp only [if_true, List.mem_append, List.mem_map, List.mem_range] at hx
    rcases hx with ⟨a, ha, rfl⟩ | ⟨b, hb, rfl⟩
    · exact pt_box c h a (by omega)
    · exact ⟨h, b, by omega, by omega, by unfold P.lim; ext <;> simp <;> omega⟩

/-- the program's splits -/
def splP (g r : Int) : List (Int × Int) :=
  if r < 1 ∨ g < 1 then []
  else gridP (kap (min r 20 - 1)) fun x => decide (x ∈ rawP (klip g r).toNat (kap (min r 20 - 1)) (!decide ((klip g r).toNat < kap (min r 20))))

theorem splP_raw {g r : Int} (hr : 1 ≤ r) (hg : 1 ≤ g) {c h kr : Nat} (hc : klip g r = c) (hh : kap (min r 20 - 1) = h) (hkr : kap (min r 20) = kr) {l' : List (Int × Int)} (hs : SortP (firstsP (adj (rawP c h (!decide (c < kr))))) l') : l' = splP g r := by
  unfold splP
  rw [if_neg (by omega), hh, hkr, show (klip g r).toNat = c by omega]
  refine sort_grid hs fun x => ?_
  rw [adj_mem _ (fun hc => by obtain ⟨u, v, _, _, e⟩ := raw_box _ _ _ _ hc; simp at e), mem_gridP]
  constructor
  · intro hx
    exact ⟨raw_box _ _ _ _ hx, by simpa using hx⟩
  · rintro ⟨_, hx⟩; simpa using hx

/-- the document's capped splits of a gap -/
def truP (g : Int) (r : Int) : List (Int × Int) := firstsP ((List.range g.toNat).map (ptP g (kap (r - 1))))
theorem truP_mem (n : Nat) (r : Int) (x : Int × Int) : x ∈ truP n r ↔ x ∈ (List.range n).map (ptP n (kap (r - 1))) := by
  unfold truP; rw [firstsP_mem]; simp

def refP (g r : Int) : List (Int × Int) :=
  if r < 1 ∨ g < 1 then []
  else gridP (kap (r - 1)) fun x => decide (x ∈ truP (if klip g r = kap r then 3 * klip g r + 3 else klip g r) r)

theorem kap_dbl (r : Int) (h0 : 1 ≤ r) (h1 : r ≤ 20) : kap r = 2 * kap (r - 1) + 1 := by
  obtain ⟨k, hk⟩ : ∃ k : Nat, r - 1 = k := ⟨(r - 1).toNat, by omega⟩
  have := kap_succ k (by omega)
  rw [hk, ← this]; congr 1; omega

theorem gridP_congr (h : Nat) (p q : Int × Int → Bool) (hpq : ∀ x, p x = true ↔ q x = true) : gridP h p = gridP h q :=
  sorted_uniq (gridP_sorted h p) (gridP_sorted h q) fun x => by rw [mem_gridP, mem_gridP, hpq]

theorem spl_ref (g r : Int) (h1 : r ≤ 20) : splP g r = refP g r := by
  unfold splP refP
  by_cases h0 : r < 1 ∨ g < 1
  · rw [if_pos h0, if_pos h0]
  · rw [if_neg h0, if_neg h0, show min r 20 = r by omega]
    have hk := kap_dbl r (by omega) h1
    obtain ⟨b0, b1, _⟩ := klip_bd g r
    obtain ⟨c, hc⟩ : ∃ c : Nat, klip g r = c := ⟨(klip g r).toNat, by omega⟩
    rw [hc] at b1 ⊢
    refine gridP_congr _ _ _ fun x => ?_
    rw [decide_eq_true_iff, decide_eq_true_iff, Int.toNat_natCast]
    by_cases hf : c < kap r
    · rw [decide_eq_true hf, if_neg (by omega)]
      rw [truP_mem]; exact raw_part _ _ _
    · have hcc : c = kap r := by omega
      rw [decide_eq_false hf, if_pos (by omega)]
      have e : (3 * (c : Int) + 3) = ((3 * c + 3 : Nat) : Int) := by omega
      rw [e, truP_mem, true_full _ _ (by omega)]
      rw [hcc, hk]
      exact raw_full _ _

/-- the capped splits of a gap are those of its clipped one -/
theorem spl_true_mem (g r : Int) (h0 : 1 ≤ r) (h1 : r ≤ 20) (hg : 0 ≤ g) (x : Int × Int) : x ∈ splP (klip g r) r ↔ x ∈ truP g r := by
  obtain ⟨b0, b1, _⟩ := klip_bd g r
  have hk := kap_dbl r h0 h1
  obtain ⟨n, hn⟩ : ∃ n : Nat, g = n := ⟨g.toNat, by omega⟩
  subst hn
  rw [truP_mem]
  by_cases hz : n = 0
  · subst hz
    have : klip ((0 : Nat) : Int) r = 0 := by unfold klip; omega
    rw [this]; unfold splP; simp
  · have hp : 1 ≤ kap r := by omega
    have hc1 : 1 ≤ klip n r := by unfold klip; omega
    obtain ⟨c, hc⟩ : ∃ c : Nat, klip n r = c := ⟨(klip n r).toNat, by omega⟩
    have hcc : klip (c : Int) r = c := by rw [← hc]; unfold klip at *; omega
    unfold splP
    rw [hc, if_neg (by omega), hcc, show min r 20 = r by omega, mem_gridP, decide_eq_true_iff, Int.toNat_natCast]
    have key : x ∈ rawP c (kap (r - 1)) (!decide (c < kap r)) ↔ x ∈ (List.range n).map (ptP n (kap (r - 1))) := by
      by_cases hf : c < kap r
      · have : c = n := by unfold klip at hc; omega
        subst this
        rw [decide_eq_true hf]; exact raw_part _ _ _
      · have hcc : c = kap r := by unfold klip at hc; omega
        rw [decide_eq_false hf, true_full _ _ (by unfold klip at hc; omega), hcc, hk]
        exact raw_full _ _
    rw [← key]
    constructor
    · rintro ⟨_, h⟩; exact h
    · intro h; exact ⟨raw_box _ _ _ _ h, h⟩

theorem spl_true_len (g r : Int) (h0 : 1 ≤ r) (h1 : r ≤ 20) (hg : 0 ≤ g) : (splP (klip g r) r).length = (truP g r).length := by
  have n1 : (splP (klip g r) r).Nodup := by
    unfold splP; split
    · simp
    · exact (gridP_sorted _ _).imp fun {a b} h e => by subst e; exact ltP_irrefl _ h
  have n2 : (truP g r).Nodup := firstsP_nodup _
  exact ((List.perm_ext_iff_of_nodup n1 n2).2 (spl_true_mem g r h0 h1 hg)).length_eq

end Go.Proofs.YtkkoooagamadjaaGreatDoor
