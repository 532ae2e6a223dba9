/- All and Clip of package drop. Slices that read wherever they lie, and appends of them. -/
import Derived.Test.YtkkoooagamadjaaGreatDoorPk09
import Derived.Test.YtkkoooagamadjaaGreatDoorPk01
import Derived.Below

namespace Go.Proofs.YtkkoooagamadjaaGreatDoor
open Go.RowKit

theorem cutG_le (gl : List Int) (n i : Nat) (r : Int) : (cutG gl n i r).length ≤ gl.length := by
  unfold cutG
  split
  · exact Nat.le_refl _
  · split
    · exact (List.eraseIdx_sublist _ _).length_le
    · split
      · exact (List.eraseIdx_sublist _ _).length_le
      · refine Nat.le_trans (List.eraseIdx_sublist _ _).length_le ?_
        rw [List.length_set]; exact Nat.le_refl _

theorem dropGo_len (a r : Int) : ∀ (f i : Nat) (cl : List (Int × Int)) (gl : List Int), (dropGo a r f i cl gl).1.length ≤ cl.length ∧ (dropGo a r f i cl gl).2.length ≤ gl.length
  | 0, _, cl, gl => ⟨Nat.le_refl _, Nat.le_refl _⟩
  | f + 1, i, cl, gl => by
    rw [dropGo]
    split
    · exact dropGo_len a r f (i + 1) cl gl
    · split
      · have h := dropGo_len a r f i ((cl.set i (putZ (cl.getD i (0, 0)).1 a false, (cl.getD i (0, 0)).2)).eraseIdx i) (cutG gl cl.length i r)
        refine ⟨Nat.le_trans h.1 ?_, Nat.le_trans h.2 (cutG_le _ _ _ _)⟩
        refine Nat.le_trans (List.eraseIdx_sublist _ _).length_le ?_
        rw [List.length_set]; exact Nat.le_refl _
      · have h := dropGo_len a r f (i + 1) (cl.set i (putZ (cl.getD i (0, 0)).1 a false, (cl.getD i (0, 0)).2)) gl
        rwa [List.length_set] at h

theorem dropZ_len (a r : Int) (cl : List (Int × Int)) (gl : List Int) : (dropZ a r cl gl).1.length ≤ cl.length ∧ (dropZ a r cl gl).2.length ≤ gl.length := by
  unfold dropZ
  split
  · exact dropGo_len _ _ _ _ _ _
  · exact ⟨Nat.le_refl _, Nat.le_refl _⟩

/-- a zone without the attributes of a list -/
def allZ (r : Int) (l : List Int) (z : List (Int × Int) × List Int) : List (Int × Int) × List Int := l.foldl (fun z a => dropZ a r z.1 z.2) z

theorem allZ_step (r : Int) (l : List Int) (z : List (Int × Int) × List Int) (k : Nat) (a : Int) (h : l[k]? = some a) : allZ r (l.take (k + 1)) z = dropZ a r (allZ r (l.take k) z).1 (allZ r (l.take k) z).2 := by
  obtain ⟨hk, rfl⟩ := List.getElem?_eq_some_iff.1 h
  rw [List.take_succ_eq_append_getElem hk, allZ, List.foldl_append]
  rfl

theorem allZ_len (r : Int) : ∀ (l : List Int) (z : List (Int × Int) × List Int), (allZ r l z).1.length ≤ z.1.length ∧ (allZ r l z).2.length ≤ z.2.length
  | [], _ => ⟨Nat.le_refl _, Nat.le_refl _⟩
  | a :: l, z => by
    have h := allZ_len r l (dropZ a r z.1 z.2)
    have k := dropZ_len a r z.1 z.2
    exact ⟨Nat.le_trans h.1 k.1, Nat.le_trans h.2 k.2⟩

/-- where a loop over a zone in a box stands -/
structure BoxAt (w : World) (B7 : Nat) (z : List (Int × Int) × List Int) (g1 cap1 g2 cap2 : Nat) (W : World) : Prop where
  box : Box2 W B7 (.slice (some ⟨g1, 0, none⟩) z.1.length cap1) (.slice (some ⟨g2, 0, none⟩) z.2.length cap2)
  res : Box2 W (w.heap.size + 1) (.slice none 0 0) (.slice none 0 0)
  zone : ZoneAt W (w.heap.size + 2) (.slice (some ⟨g1, 0, none⟩) z.1.length cap1) (.slice (some ⟨g2, 0, none⟩) z.2.length cap2) z.1 z.2
  low : Below w.heap.size w W
  ib : w.heap.size + 2 ≤ B7

/-- the gaps, those ahead of a place clipped -/
def clipG (gl : List Int) (r : Int) (k : Nat) : List Int := (gl.take k).map (fun g => klip g r) ++ gl.drop k
theorem clipG_len (gl : List Int) (r : Int) (k : Nat) : (clipG gl r k).length = gl.length := by
  unfold clipG; simp; omega
theorem clipG_get (gl : List Int) (r : Int) (k : Nat) (h : k < gl.length) : (clipG gl r k)[k]? = gl[k]? := by
  unfold clipG
  rw [List.getElem?_append_right (by rw [List.length_map, List.length_take]; omega)]
  simp [Nat.min_eq_left (Nat.le_of_lt h)]
theorem clipG_step (gl : List Int) (r : Int) (k : Nat) (x : Int) (h : gl[k]? = some x) : clipG gl r (k + 1) = (clipG gl r k).set k (klip x r) := by
  obtain ⟨hk, rfl⟩ := List.getElem?_eq_some_iff.1 h
  unfold clipG
  rw [List.take_succ_eq_append_getElem hk, List.map_append, List.drop_eq_getElem_cons hk, List.append_assoc, List.set_append_right _ _ (by rw [List.length_map, List.length_take]; omega),
    show k - ((gl.take k).map fun g => klip g r).length = 0 by rw [List.length_map, List.length_take]; omega]
  rfl
theorem clipG_all (gl : List Int) (r : Int) : clipG gl r gl.length = gl.map (fun g => klip g r) := by unfold clipG; simp

set_option maxRecDepth 100000 in
set_option maxHeartbeats 4000000 in
theorem dropClip_any (base : Nat) (v1 v2 : Value) (cl0 : List (Int × Int)) (gl0 : List Int) (r : Int) (w : World) (hz : ZoneAt w base v1 v2 cl0 gl0) (hcl : cl0.length ≤ 65536) (hgl : gl0.length ≤ 65536) :
    Calls Tryz.prog 106 #[.agg #[v1, v2], .int .i64 r] w fun e w' => ∃ g1 g2, e = .returned (.agg #[.slice (some ⟨g1, 0, none⟩) cl0.length cl0.length, .slice (some ⟨g2, 0, none⟩) gl0.length gl0.length]) ∧
      ZoneAt w' w.heap.size (.slice (some ⟨g1, 0, none⟩) cl0.length cl0.length) (.slice (some ⟨g2, 0, none⟩) gl0.length gl0.length) cl0 (gl0.map fun g => klip g r) ∧ Below w.heap.size w w' := by
  have x1 := (Box2.new w v1 v2).alloc (.cells #[.slice none 0 0, .slice none 0 0] 28)
  have x2 := Box2.new (w.alloc (.cells #[v1, v2] 28)) (.slice none 0 0) (.slice none 0 0)
  simp only [World.size_alloc] at x2
  have hb0 : Below w.heap.size w ((w.alloc (.cells #[v1, v2] 28)).alloc (.cells #[.slice none 0 0, .slice none 0 0] 28)) := ((Below.refl _ w).alloc (Nat.le_refl _) _).alloc (by simp) _
  have z0 : ZoneAt ((w.alloc (.cells #[v1, v2] 28)).alloc (.cells #[.slice none 0 0, .slice none 0 0] 28)) base v1 v2 cl0 gl0 := hz.below hb0
  have hs0 : ((w.alloc (.cells #[v1, v2] 28)).alloc (.cells #[.slice none 0 0, .slice none 0 0] 28)).heap.size = w.heap.size + 2 := by simp
  have hown := Lib.hid (dropOwn_any base v1 v2 cl0 gl0 _ z0 hcl hgl)
  obtain ⟨N, hN⟩ : ∃ N, cl0.length = N := ⟨_, rfl⟩
  obtain ⟨M, hM⟩ : ∃ M, gl0.length = M := ⟨_, rfl⟩
  rw [hN] at hcl; rw [hM] at hgl
  have X1 := Lib.hid x1; have X2 := Lib.hid x2; have HB0 := Lib.hid hb0; have Z0 := Lib.hid z0; have HS0 := Lib.hid hs0
  have HN := Lib.hid hN; have HM := Lib.hid hM
  clear x1 x2 hb0 z0 hs0 hN hM
  go_enter Tryz.func106, Tryz.ntmps106
  go_wp2_with fail
  refine hown.out.mono ?_
  rintro e W2 ⟨g1, g2, rfl, zo, hb⟩
  rw [HN.out, HM.out] at zo ⊢
  have hsz2 := hb.size
  rw [HS0.out] at hsz2 zo
  have y1 := (X1.out.kept (row := none) ⟨hb.os, hb.tape, hb.output, hb.size, fun k hk _ => hb.block k hk⟩ (by simp)).alloc (.cells #[.slice (some ⟨g1, 0, none⟩) N N, .slice (some ⟨g2, 0, none⟩) M M] 28)
  have y2 := (X2.out.kept (row := none) ⟨hb.os, hb.tape, hb.output, hb.size, fun k hk _ => hb.block k hk⟩ (by simp)).alloc (.cells #[.slice (some ⟨g1, 0, none⟩) N N, .slice (some ⟨g2, 0, none⟩) M M] 28)
  have y7 := Box2.new W2 (.slice (some ⟨g1, 0, none⟩) N N) (.slice (some ⟨g2, 0, none⟩) M M)
  have hb2 : Below w.heap.size w (W2.alloc (.cells #[.slice (some ⟨g1, 0, none⟩) N N, .slice (some ⟨g2, 0, none⟩) M M] 28)) := (HB0.out.trans (hb.mono HB0.out.size)).alloc (by omega) _
  have zo2 : ZoneAt (W2.alloc (.cells #[.slice (some ⟨g1, 0, none⟩) N N, .slice (some ⟨g2, 0, none⟩) M M] 28)) (w.heap.size + 2) (.slice (some ⟨g1, 0, none⟩) N N) (.slice (some ⟨g2, 0, none⟩) M M) cl0 gl0 := zo.below ((Below.refl _ W2).alloc (Nat.le_refl _) _)
  have zo3 := zo2.1
  have zo4 := zo2.2
  rw [HN.out] at zo3
  rw [HM.out] at zo4
  have hpos : ∀ k x, gl0[k]? = some x → (clipG gl0 r k)[k]? = some x := fun k x h => (clipG_get gl0 r k (List.getElem?_eq_some_iff.1 h).1).trans h
  have HP := Lib.hid hpos
  obtain ⟨cur1, q1, b1⟩ := owns_row zo3
  obtain ⟨cur2, q2, b2⟩ := owns_row zo4
  have hg12 : g1 ≠ g2 := fun e => by subst e; rw [q1] at q2; cases q2
  have hB2 : W2.heap.size ≠ g2 := fun e => by have := y7; unfold Box2 at this; rw [e, q2] at this; cases this
  have h0 : clipG gl0 r 0 = gl0 := by unfold clipG; simp
  have HZZ : Hid (Box2 (W2.alloc (.cells #[.slice (some ⟨g1, 0, none⟩) N N, .slice (some ⟨g2, 0, none⟩) M M] 28)) W2.heap.size (.slice (some ⟨g1, 0, none⟩) N N) (.slice (some ⟨g2, 0, none⟩) M M) ∧
      Box2 (W2.alloc (.cells #[.slice (some ⟨g1, 0, none⟩) N N, .slice (some ⟨g2, 0, none⟩) M M] 28)) (w.heap.size + 1) (.slice none 0 0) (.slice none 0 0) ∧
      (W2.alloc (.cells #[.slice (some ⟨g1, 0, none⟩) N N, .slice (some ⟨g2, 0, none⟩) M M] 28)).ownsRow (w.heap.size + 2) 47 2 (.slice (some ⟨g1, 0, none⟩) N N) N (cellsP cl0) ∧
      (W2.alloc (.cells #[.slice (some ⟨g1, 0, none⟩) N N, .slice (some ⟨g2, 0, none⟩) M M] 28)).ownsRow (w.heap.size + 2) 3 1 (.slice (some ⟨g2, 0, none⟩) M M) M (ints (clipG gl0 r 0)) ∧
      Below w.heap.size w (W2.alloc (.cells #[.slice (some ⟨g1, 0, none⟩) N N, .slice (some ⟨g2, 0, none⟩) M M] 28))) := ⟨y7, y2, zo3, by rw [h0]; exact zo4, hb2⟩
  have hmx : Tryz.prog.follows .mixedOrders = true := by kernel_rfl
  have c1 := y7.c1
  clear hb y1 y2 y7 hb2 zo zo2 zo3 zo4 q1 q2 X1 X2 HB0 Z0 hown hpos h0
  go_wp2
  go_loopw [6, 7, 13] (fun _ _ i wr => ∃ k : Nat, i = .int .i64 k ∧ k ≤ M ∧ Hid (Box2 wr W2.heap.size (.slice (some ⟨g1, 0, none⟩) N N) (.slice (some ⟨g2, 0, none⟩) M M) ∧ Box2 wr (w.heap.size + 1) (.slice none 0 0) (.slice none 0 0) ∧
      wr.ownsRow (w.heap.size + 2) 47 2 (.slice (some ⟨g1, 0, none⟩) N N) N (cellsP cl0) ∧ wr.ownsRow (w.heap.size + 2) 3 1 (.slice (some ⟨g2, 0, none⟩) M M) M (ints (clipG gl0 r k)) ∧ Below w.heap.size w wr)) (fun _ _ i _ => M - (intOf i).toNat)
  case atStart => exact ⟨0, rfl, Nat.zero_le _, HZZ.out⟩
  case round =>
    clear HZZ
    obtain ⟨k, rfl, hk, HA⟩ := hrel
    have c1 := HA.out.1.c1
    by_cases hlt : k < M
    · have hkl : k < gl0.length := by rw [HM.out]; exact hlt
      obtain ⟨x, hx⟩ : ∃ x, gl0[k]? = some x := ⟨_, List.getElem?_eq_getElem hkl⟩
      have HST := Lib.hid (clipG_step gl0 r k x hx)
      have k1 : wr.cell? ⟨g2, k, none⟩ = some (.int .i64 x) := by
        rw [HA.out.2.2.2.1.cellAt _ (by omega)]
        simp [ints, HP.out k x hx]
      have k3 := owns_frozen HA.out.2.2.2.1 k
      have p1 : (k : Int) < (M : Int) := by omega
      have p0 : (0 : Int) ≤ (k : Int) := by omega
      clear hx
      go_wp2
      refine wp_region_still_tail 7 hmx (by kernel_rfl) ?_
      simp only [List.take_succ_cons, List.take_zero, List.drop_succ_cons, List.drop_zero]
      repeat still_step
      still_call ((clip_any x r _).mono fun e w' h => ⟨h.1, h.2.symm⟩)
      repeat still_step
      refine wpStill_nil ?_
      change wpList _ _ _ _ _ wr.drew
      obtain ⟨W9, hW9⟩ : ∃ W9, wr.drew = W9 := ⟨_, rfl⟩
      have HA9 : Hid (Box2 W9 W2.heap.size (.slice (some ⟨g1, 0, none⟩) N N) (.slice (some ⟨g2, 0, none⟩) M M) ∧ Box2 W9 (w.heap.size + 1) (.slice none 0 0) (.slice none 0 0) ∧
        W9.ownsRow (w.heap.size + 2) 47 2 (.slice (some ⟨g1, 0, none⟩) N N) N (cellsP cl0) ∧ W9.ownsRow (w.heap.size + 2) 3 1 (.slice (some ⟨g2, 0, none⟩) M M) M (ints (clipG gl0 r k)) ∧ Below w.heap.size w W9) := by
        rw [← hW9]; exact ⟨HA.out.1, HA.out.2.1, HA.out.2.2.1, HA.out.2.2.2.1, HA.out.2.2.2.2.drew⟩
      have k1' : W9.cell? ⟨g2, k, none⟩ = some (.int .i64 x) := by rw [← hW9]; exact k1
      have k3' : W9.frozen? ⟨g2, k, none⟩ = false := by rw [← hW9]; exact k3
      rw [hW9]
      clear hW9 HA k1 k3 c1
      obtain ⟨z, hz⟩ : ∃ z, klip x r = z := ⟨_, rfl⟩
      unfold Hid at HST
      rw [hz] at HST ⊢
      have HST := Lib.hid HST
      have HG : Hid (Box2 (W9.setCell ⟨g2, k, none⟩ (.int .i64 z)) W2.heap.size (.slice (some ⟨g1, 0, none⟩) N N) (.slice (some ⟨g2, 0, none⟩) M M) ∧ Box2 (W9.setCell ⟨g2, k, none⟩ (.int .i64 z)) (w.heap.size + 1) (.slice none 0 0) (.slice none 0 0) ∧
        (W9.setCell ⟨g2, k, none⟩ (.int .i64 z)).ownsRow (w.heap.size + 2) 47 2 (.slice (some ⟨g1, 0, none⟩) N N) N (cellsP cl0) ∧ (W9.setCell ⟨g2, k, none⟩ (.int .i64 z)).ownsRow (w.heap.size + 2) 3 1 (.slice (some ⟨g2, 0, none⟩) M M) M (ints (clipG gl0 r (k + 1))) ∧ Below w.heap.size w (W9.setCell ⟨g2, k, none⟩ (.int .i64 z))) := by
        refine ⟨HA9.out.1.other _ hB2 _, HA9.out.2.1.other _ (by simp; omega) _, ownsRow_setCell_other HA9.out.2.2.1 (by simp [Value.ownBlock]; omega) _, ?_, HA9.out.2.2.2.2.setCell (p := ⟨g2, k, none⟩) (by simp; omega) _⟩
        rw [HST.out, show ints ((clipG gl0 r k).set k z) = (ints (clipG gl0 r k)).set k (.int .i64 z) by unfold ints; rw [List.map_set]]
        exact owns_set HA9.out.2.2.2.1 _ _
      clear HA9 hz
      go_wp2
      go_roundw
      case rel => exact ⟨k + 1, by go_num, by omega, HG⟩
      case measure => simp [intOf]; omega
    · obtain rfl : k = M := by omega
      have c0 := HA.out.1.c0
      have c3 := HA.out.2.1.c0; have c4 := HA.out.2.1.c1; have c5 := HA.out.2.1.z0 0; have c6 := HA.out.2.1.z0 1
      have c7 := HA.out.2.1.lt
      have HE : Hid (clipG gl0 r k = gl0.map fun g => klip g r) := by unfold Hid; rw [← HM.out]; exact clipG_all gl0 r
      go_wp2
      have v1 := (HA.out.2.1.s0 (.slice (some ⟨g1, 0, none⟩) N N)).s1 (.slice (some ⟨g2, 0, none⟩) k k)
      have e6 := v1.c0; have e7 := v1.c1
      refine bodyPost_ret (v := .agg #[.slice (some ⟨g1, 0, none⟩) N N, .slice (some ⟨g2, 0, none⟩) k k]) (by simp [results, Tryz.results106, go_sem, e6, e7]) rfl ?_
      rw [HN.out, HM.out]
      have hml : (gl0.map fun g => klip g r).length = k := by rw [List.length_map]; exact HM.out
      refine ⟨g1, g2, rfl, ZoneAt.mono ⟨?_, ?_⟩ (by omega : w.heap.size ≤ w.heap.size + 2), (HA.out.2.2.2.2.setCell (p := ⟨w.heap.size + 1, 0, none⟩) (by simp) _).setCell (p := ⟨w.heap.size + 1, 1, none⟩) (by simp) _⟩
      · rw [HN.out]; exact ownsRow_setCell_other (ownsRow_setCell_other HA.out.2.2.1 (HA.out.2.1.row HA.out.2.2.1 (by decide)) _) (HA.out.2.1.row HA.out.2.2.1 (by decide)) _
      · rw [hml, ← HE.out]; exact ownsRow_setCell_other (ownsRow_setCell_other HA.out.2.2.2.1 (HA.out.2.1.row HA.out.2.2.2.1 (by decide)) _) (HA.out.2.1.row HA.out.2.2.2.1 (by decide)) _

end Go.Proofs.YtkkoooagamadjaaGreatDoor

namespace Go.Proofs.YtkkoooagamadjaaGreatDoor
open Go.RowKit

theorem wpList_append_known {P : Program} (w : World) {ops : Array Oper} {rest : List Oper} {o : Oper} {a : Act} {Q : Exit → Act → World → Prop} (hgd : o.guard = none) (s x : Operand) (t tn : TypeId)
    (ho : o.op = .call { callee := .builtin .append, args := #[s, x], argTypes := #[t, tn] }) (vs vx : Value) (hs : a.eval s = vs) (hx : a.eval x = vx)
    (v' : Value) (w' : World) (hr : (Builtin.append_ #[t, tn] o.type #[vs, vx]).run P w = .ok v' w') (h : wpList P ops Q rest (a.put o.dst v') w') : wpList P ops Q (o :: rest) a w := by
  refine wpList_plain hgd fun _ hK => ?_
  unfold Oper.wp execOp
  simp only [ho, resolve, invoke, builtin, Sem.run_bind, Sem.run_pure, Result.andThen_ok, List.map_toArray, List.map_cons, List.map_nil, hs, hx, hr]
  exact hK _ _ h

/-- a slice of elements of k cells that reads as a list, of whatever memory -/
def RdK (w : World) (k : Nat) (v : Value) (n : Nat) (xs : List Value) : Prop :=
  ∃ ad cap, v = .slice ad n cap ∧ xs.length = n * k ∧ (n = 0 ∨ ∃ b off, ad = some ⟨b, off, none⟩ ∧ b < w.heap.size ∧ ∀ t x, xs[t]? = some x → w.cell? ⟨b, off + t, none⟩ = some x)
theorem RdK.len {w : World} {k : Nat} {v : Value} {n : Nat} {xs : List Value} (h : RdK w k v n xs) : ∃ ad cap, v = .slice ad n cap := by
  obtain ⟨ad, cap, hv, _⟩ := h; exact ⟨ad, cap, hv⟩
theorem RdK.below {w w' : World} {k : Nat} {v : Value} {n : Nat} {xs : List Value} (h : RdK w k v n xs) (hb : Below w.heap.size w w') : RdK w' k v n xs := by
  obtain ⟨ad, cap, hv, hl, h⟩ := h
  refine ⟨ad, cap, hv, hl, ?_⟩
  rcases h with h | ⟨b, off, ha, hg, hc⟩
  · exact .inl h
  · exact .inr ⟨b, off, ha, Nat.lt_of_lt_of_le hg hb.size, fun t x hx => (hb.cell (p := ⟨b, off + t, none⟩) hg).trans (hc t x hx)⟩
theorem RdK.of_owns {w : World} {base : Nat} {e : TypeId} {k : Nat} {v : Value} {n : Nat} {xs : List Value} (h : w.ownsRow base e k v n xs) : RdK w k v n xs := by
  have hl := h.1
  rcases h.2 with ⟨rfl, h0⟩ | ⟨g, cap, cur, rfl, hb, hg, hn, hm, hs, ht⟩
  · exact ⟨none, 0, by rw [h0], hl, .inl h0⟩
  · refine ⟨_, cap, rfl, hl, .inr ⟨g, 0, rfl, (Array.getElem?_eq_some_iff.1 hg).1, fun t x hx => ?_⟩⟩
    have hc := World.ownsRow.cellAt h t (by have := (List.getElem?_eq_some_iff.1 hx).1; omega)
    rw [Nat.zero_add, hc, hx]
theorem RdK.at {w : World} {k : Nat} {ad : Option Addr} {n m cap : Nat} {xs : List Value} (h : RdK w k (.slice ad m cap) n xs) (hn : 0 < n) : ∃ b off, ad = some ⟨b, off, none⟩ ∧ b < w.heap.size ∧ ∀ t x, xs[t]? = some x → w.cell? ⟨b, off + t, none⟩ = some x := by
  obtain ⟨ad', cap', hv, hl, h⟩ := h
  cases hv
  rcases h with h | h
  · omega
  · exact h

theorem append_nothing {P : Program} {w : World} {base : Nat} (t ty e : TypeId) (i : TypeInfo) (size cap0 : Nat) (ht : P.underlying t = some (.slice e)) (hi : P.info? e = some i)
    (v : Value) (n : Nat) (xs : List Value) (hown : w.ownsRow base e size v n xs) :
    (Builtin.append_ #[t, t] ty #[v, .slice none 0 cap0]).run P w = .ok v w := by
  rcases hown.2 with ⟨rfl, rfl⟩ | ⟨g, cap, cur, rfl, _, _, hnc, _⟩
  · simp [Builtin.append_, run_underlying ht, sizeOf, typeInfo, hi, Builtin.lenOf, Builtin.firstCells]
  · simp [Builtin.append_, run_underlying ht, sizeOf, typeInfo, hi, Builtin.lenOf, Builtin.firstCells, hnc, storeCells]

/-- append of a row that lies anywhere -/
theorem appK_run {P : Program} (w : World) (t ty e : TypeId) (z : Value) (size bytes base : Nat) (ht : P.underlying t = some (.slice e)) (hinfo : (P.info? e).map (fun i => (i.zero, i.size, i.bytes)) = some (some z, size, bytes))
    (hzs : z.cells.size = size) (hsz : 0 < size) (hby : 0 < bytes) (v : Value) (n : Nat) (xs : List Value) (hown : w.ownsRow base e size v n xs) (vx : Value) (m : Nat) (news : List Value) (hr : RdK w size vx m news)
    (h1 : ∀ u ∈ news, u.oneCell' = true) (hbytes : (n + m) * bytes ≤ 140737488355328) (hbase : base ≤ w.heap.size) :
    ∃ v' w', (Builtin.append_ #[t, t] ty #[v, vx]).run P w = .ok v' w' ∧ w'.ownsRow base e size v' (n + m) (xs ++ news) ∧ w.grownBy w' v.ownBlock := by
  obtain ⟨i, hi, hz0, hz1, hz2⟩ := info_parts hinfo
  have h63 : n + m ≤ maxLen := by
    have : (n + m) * 1 ≤ (n + m) * bytes := Nat.mul_le_mul_left _ hby
    unfold maxLen; omega
  obtain ⟨ad, cap, rfl, hl, hs⟩ := hr
  have key : ∀ ad', ad = some ad' → (∀ j u, news[j]? = some u → w.cell? (ad'.add j) = some u) → ∃ v' w', (Builtin.append_ #[t, t] ty #[v, .slice ad m cap]).run P w = .ok v' w' ∧ w'.ownsRow base e size v' (n + m) (xs ++ news) ∧ w.grownBy w' v.ownBlock := by
    rintro ad' rfl hc
    obtain ⟨v', w', h2, h3, h4, _⟩ := run_append_own (P := P) w base t ty e i z size bytes ht hi hz0 hz1 hz2 hzs hsz v n xs hown ad' m cap news hl hc h1 h63 hbytes hbase
    exact ⟨v', w', h2, h3, h4⟩
  rcases hs with h0 | ⟨b, off, ha, _, hc⟩
  · subst h0
    have hn : news = [] := List.eq_nil_of_length_eq_zero (by omega)
    subst hn
    cases ad with
    | none => exact ⟨v, w, append_nothing t ty e i size cap ht hi v n xs hown, by simpa using hown, ⟨rfl, rfl, rfl, Nat.le_refl _, fun _ _ _ => rfl⟩⟩
    | some ad' => exact key ad' rfl (fun j u hu => by simp at hu)
  · exact key _ ha (fun j u hu => by rw [Addr.add_lit]; exact hc j u hu)

theorem step_append_known {P : Program} {ops : Array Oper} {o : Oper} {a : Act} {w : World} {K : Act → World → Prop} {Q : Exit → Act → World → Prop} {E : Prop}
    (hg : o.guard = none) (s x : Operand) (t u : TypeId) (hop : o.op = Op.call { callee := Callee.builtin Builtin.append, args := #[s, x], argTypes := #[t, u] })
    (vs vx : Value) (hs : a.eval s = vs) (hx : a.eval x = vx) (v' : Value) (w' : World) (hr : (Builtin.append_ #[t, u] o.type #[vs, vx]).run P w = .ok v' w') (hK : K (a.put o.dst v') w') :
    if Region.wanted o (yielded ops a.tmps) = true then Oper.wp P o a w K Q else E := by
  have hw : Region.wanted o (yielded ops a.tmps) = true := by simp [Region.wanted, hg]
  rw [if_pos hw]
  unfold Oper.wp
  simp [execOp, hop, resolve, invoke, builtin, hs, hx, hr, Result.andThen]
  exact hK

theorem RdK.zero (w : World) (k : Nat) (X : Option Addr) (c : Nat) : RdK w k (.slice X 0 c) 0 [] := ⟨X, c, rfl, by simp, .inl rfl⟩
theorem RdK.take {w : World} {k n cap i : Nat} {ad : Option Addr} {xs : List Value} (h : RdK w k (.slice ad n cap) n xs) (hi : i ≤ n) : RdK w k (.slice ad i cap) i (xs.take (i * k)) := by
  obtain ⟨ad', cap', hv, hl, h⟩ := h
  cases hv
  have hm : i * k ≤ n * k := Nat.mul_le_mul_right _ hi
  refine ⟨ad, cap, rfl, by rw [List.length_take]; omega, ?_⟩
  by_cases h0 : i = 0
  · exact .inl h0
  · obtain ⟨b, off, ha, hb, hc⟩ := h.resolve_left (by omega)
    refine .inr ⟨b, off, ha, hb, fun t x hx => hc t x ?_⟩
    rw [List.getElem?_take] at hx
    split at hx
    · exact hx
    · cases hx
theorem RdK.drop {w : World} {k n cap i b off : Nat} {xs : List Value} (h : RdK w k (.slice (some ⟨b, off, none⟩) n cap) n xs) (hn : 0 < n) (c : Nat) : RdK w k (.slice (some ⟨b, off + i * k, none⟩) (n - i) c) (n - i) (xs.drop (i * k)) := by
  obtain ⟨ad', cap', hv, hl, h⟩ := h
  cases hv
  refine ⟨_, _, rfl, by rw [List.length_drop, hl, Nat.sub_mul], ?_⟩
  obtain ⟨b', off', ha, hb, hc⟩ := h.resolve_left (by omega)
  cases ha
  refine .inr ⟨b, _, rfl, hb, fun t x hx => ?_⟩
  rw [List.getElem?_drop] at hx
  rw [Nat.add_assoc]
  exact hc _ _ hx

theorem step_appX {P : Program} {ops : Array Oper} {o : Oper} {a : Act} {w : World} {K : Act → World → Prop} {Q : Exit → Act → World → Prop} {E : Prop}
    (hg : o.guard = none) (s x : Operand) (t : TypeId) (hop : o.op = Op.call { callee := Callee.builtin Builtin.append, args := #[s, x], argTypes := #[t, t] })
    (e : TypeId) (z : Value) (size bytes base : Nat) (ht : P.underlying t = some (.slice e)) (hinfo : (P.info? e).map (fun i => (i.zero, i.size, i.bytes)) = some (some z, size, bytes))
    (hzs : z.cells.size = size) (hsz : 0 < size) (hby : 0 < bytes) (v : Value) (n : Nat) (xs : List Value) (hs : a.eval s = v) (hown : w.ownsRow base e size v n xs) (m : Nat) (news : List Value) (hx : ∃ vx, a.eval x = vx ∧ RdK w size vx m news)
    (h1 : ∀ u ∈ news, u.oneCell' = true) (hbytes : (n + m) * bytes ≤ 140737488355328) (hbase : base ≤ w.heap.size)
    (h : ∀ v' w', w'.ownsRow base e size v' (n + m) (xs ++ news) → w.grownBy w' v.ownBlock → K (a.put o.dst v') w') :
    if Region.wanted o (yielded ops a.tmps) = true then Oper.wp P o a w K Q else E := by
  obtain ⟨vx, hvx, hr⟩ := hx
  obtain ⟨v', w', hrun, ho, hgr⟩ := appK_run (P := P) w t o.type e z size bytes base ht hinfo hzs hsz hby v n xs hown vx m news hr h1 hbytes hbase
  exact step_append_known hg s x t t hop v vx hs hvx v' w' hrun (h v' w' ho hgr)

theorem wpList_appX {P : Program} (w : World) {ops : Array Oper} {rest : List Oper} {o : Oper} {a : Act} {Q : Exit → Act → World → Prop} (hgd : o.guard = none) (s x : Operand) (t : TypeId)
    (ho : o.op = .call { callee := .builtin .append, args := #[s, x], argTypes := #[t, t] })
    (e : TypeId) (z : Value) (size bytes base : Nat) (ht : P.underlying t = some (.slice e)) (hinfo : (P.info? e).map (fun i => (i.zero, i.size, i.bytes)) = some (some z, size, bytes))
    (hzs : z.cells.size = size) (hsz : 0 < size) (hby : 0 < bytes) (v : Value) (n : Nat) (xs : List Value) (hs : a.eval s = v) (hown : w.ownsRow base e size v n xs) (m : Nat) (news : List Value) (hx : ∃ vx, a.eval x = vx ∧ RdK w size vx m news)
    (h1 : ∀ u ∈ news, u.oneCell' = true) (hbytes : (n + m) * bytes ≤ 140737488355328) (hbase : base ≤ w.heap.size)
    (h : ∀ v' w', w'.ownsRow base e size v' (n + m) (xs ++ news) → w.grownBy w' v.ownBlock → wpList P ops Q rest (a.put o.dst v') w') : wpList P ops Q (o :: rest) a w := by
  obtain ⟨vx, hvx, hr⟩ := hx
  obtain ⟨v', w', hrun, ho', hgr⟩ := appK_run (P := P) w t o.type e z size bytes base ht hinfo hzs hsz hby v n xs hown vx m news hr h1 hbytes hbase
  exact wpList_append_known w hgd s x t t ho v vx hs hvx v' w' hrun (h v' w' ho' hgr)

end Go.Proofs.YtkkoooagamadjaaGreatDoor
