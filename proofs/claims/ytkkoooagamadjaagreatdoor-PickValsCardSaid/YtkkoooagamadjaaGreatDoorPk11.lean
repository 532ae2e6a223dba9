/- drop.own and drop.Clip of a zone wherever it lies. A zone that came in, opened. -/
import Derived.Test.YtkkoooagamadjaaGreatDoorPk10
import Derived.Deep.Slices
import Derived.ChangeArms
import Derived.OpenShut

namespace Go.Proofs.YtkkoooagamadjaaGreatDoor
open Go.RowKit

/-- a zone that reads, wherever it lies -/
def ZoneIn (w : World) (v1 v2 : Value) (cl : List (Int × Int)) (gl : List Int) : Prop := RdK w 2 v1 cl.length (cellsP cl) ∧ RdK w 1 v2 gl.length (ints gl)
theorem ZoneIn.below {w w' : World} {v1 v2 : Value} {cl : List (Int × Int)} {gl : List Int} (h : ZoneIn w v1 v2 cl gl) (hb : Below w.heap.size w w') : ZoneIn w' v1 v2 cl gl := ⟨h.1.below hb, h.2.below hb⟩
theorem ZoneIn.of_at {w : World} {base : Nat} {v1 v2 : Value} {cl : List (Int × Int)} {gl : List Int} (h : ZoneAt w base v1 v2 cl gl) : ZoneIn w v1 v2 cl gl := ⟨.of_owns h.1, .of_owns h.2⟩

theorem run_copyI {P : Program} {w : World} (dT sT ty : TypeId) (elem : TypeId) (hu : P.underlying dT = some (.slice elem)) (k : Nat) (hsz : (P.info? elem).map (·.size) = some k)
    {base g n cap : Nat} {v : Value} {xs cs : List Value}
    (hown : w.ownsRow base elem k (.slice (some ⟨g, 0, none⟩) n cap) n xs) (hsrc : RdK w k v n cs) (h1 : ∀ v ∈ cs, v.oneCell' = true) :
    ∃ w', (Builtin.copy_ #[dT, sT] ty #[.slice (some ⟨g, 0, none⟩) n cap, v]).run P w = .ok (.int .i64 n) w' ∧ w'.ownsRow base elem k (.slice (some ⟨g, 0, none⟩) n cap) n cs ∧ w.grownBy w' (some g) := by
  obtain ⟨ad, cap', rfl, hl, hs⟩ := hsrc
  by_cases h0 : n = 0
  · subst h0
    have hcs : cs = [] := List.eq_nil_of_length_eq_zero (by omega)
    have hxs : xs = [] := List.eq_nil_of_length_eq_zero (by have := hown.1; omega)
    have hrun : (Builtin.copy_ #[dT, sT] ty #[.slice (some ⟨g, 0, none⟩) 0 cap, .slice ad 0 cap']).run P w = .ok (.int .i64 0) w := by
      cases ad with
      | none =>
        cases hq : P.info? elem with
        | none => simp [hq] at hsz
        | some i =>
          simp [Builtin.copy_, run_underlying hu, Builtin.lenOf, Builtin.firstCells, sizeOf, typeInfo, hq, storeCells]
          rfl
      | some a =>
        exact run_copy_k (P := P) w dT sT ty elem k g 0 cap a cap' [] hu hsz (by simp) (fun j v hv => by simp at hv) (fun j hj => by simp at hj) (fun j hj => by simp at hj) (fun v hv => by simp at hv)
    exact ⟨w, hrun, by rw [hcs]; rw [hxs] at hown; exact hown, ⟨rfl, rfl, rfl, Nat.le_refl _, fun _ _ _ => rfl⟩⟩
  · obtain ⟨b, off, rfl, _, hc⟩ := hs.resolve_left h0
    have hl2 : cs.length = xs.length := by rw [hl, hown.1]
    have hrun := run_copy_k (P := P) w dT sT ty elem k g n cap ⟨b, off, none⟩ cap' cs hu hsz hl (fun j u hu => by rw [Addr.add_lit]; exact hc j u hu)
      (fun j hj => by rw [hown.cellAt _ (by rw [← hown.1]; omega), List.getElem?_eq_getElem (by omega)]; rfl) (fun j _ => owns_frozen hown j) h1
    refine ⟨_, hrun, ?_, grown_setCells _ _ ⟨rfl, rfl, rfl, Nat.le_refl _, fun _ _ _ => rfl⟩⟩
    have := owns_setCells cs 0 hown
    rw [setAll_eq cs xs 0 (by omega), Nat.zero_add, hl2, List.drop_length] at this
    simpa using this

set_option maxRecDepth 100000 in
set_option maxHeartbeats 4000000 in
theorem dropOwnI_any (v1 v2 : Value) (cl : List (Int × Int)) (gl : List Int) (w : World) (hz : ZoneIn w v1 v2 cl gl) (hcl : cl.length ≤ 65536) (hgl : gl.length ≤ 65536) :
    Calls Tryz.prog 50 #[.agg #[v1, v2]] w fun e w' => ∃ g1 g2, e = .returned (.agg #[.slice (some ⟨g1, 0, none⟩) cl.length cl.length, .slice (some ⟨g2, 0, none⟩) gl.length gl.length]) ∧ ZoneAt w' w.heap.size (.slice (some ⟨g1, 0, none⟩) cl.length cl.length) (.slice (some ⟨g2, 0, none⟩) gl.length gl.length) cl gl ∧ Below w.heap.size w w' := by
  obtain ⟨i0, hi0, hz0, hz1, hz2⟩ := info_parts info_class
  obtain ⟨i1, hi1, hy0, hy1, hy2⟩ := info_parts info_int'
  obtain ⟨ad1, cap1, rfl⟩ := hz.1.len
  obtain ⟨ad2, cap2, rfl⟩ := hz.2.len
  have mk1 := fun (w : World) => run_makeSlice (P := Tryz.prog) w 25 47 i0 _ Tryz.underlying25 hi0 hz0 .i64 .i64 (cl.length : Int) (cl.length : Int) (by omega) (Int.le_refl _) (by rw [hz1]; simp; omega) (by rw [hz2]; omega) (by omega)
  have mk2 := fun (w : World) => run_makeSlice (P := Tryz.prog) w 26 3 i1 _ Tryz.underlying26 hi1 hy0 .i64 .i64 (gl.length : Int) (gl.length : Int) (by omega) (Int.le_refl _) (by rw [hy1]; simp; omega) (by rw [hy2]; omega) (by omega)
  simp only [Int.toNat_natCast] at mk1 mk2
  have HZ := Lib.hid hz
  clear hz
  go_enter Tryz.func50, Tryz.ntmps50
  go_wp2
  rename_i K aK
  have HK : ∀ (g1 g2 bo : Nat) (W1 : World), Below w.heap.size w W1 → W1.heap[g1]? = some (.cells (madeCells #[.int .i64 0, .int .i64 0] (cl.length * 2)) 47 (0, 0)) → W1.heap[g2]? = some (.cells (madeCells #[.int .i64 0] gl.length) 3 (0, 0)) →
      W1.heap[bo]? = some (.cells #[.slice (some ⟨g1, 0, none⟩) cl.length cl.length, .slice (some ⟨g2, 0, none⟩) gl.length gl.length] 28 (0, 0)) →
      W1.heap[w.heap.size]? = some (.cells #[.slice ad1 cl.length cap1, .slice ad2 gl.length cap2] 28 (0, 0)) → W1.heap[w.heap.size + 1]? = some (.cells #[.slice none 0 0, .slice none 0 0] 28 (0, 0)) →
      w.heap.size + 2 ≤ g1 → w.heap.size + 2 ≤ g2 → w.heap.size + 2 ≤ bo →
      K { tmps := #[.agg #[.slice ad1 cl.length cap1, .slice ad2 gl.length cap2], .pointer (some ⟨w.heap.size, 0, none⟩), .pointer (some ⟨w.heap.size + 1, 0, none⟩), .pointer (some ⟨bo, 0, none⟩), .pointer (some ⟨w.heap.size, 0, none⟩), .slice ad1 cl.length cap1,
          .int .i64 cl.length, .slice (some ⟨g1, 0, none⟩) cl.length cl.length, .pointer (some ⟨w.heap.size, 1, none⟩), .slice ad2 gl.length cap2, .int .i64 gl.length, .slice (some ⟨g2, 0, none⟩) gl.length gl.length,
          .agg #[.slice (some ⟨g1, 0, none⟩) cl.length cl.length, .slice (some ⟨g2, 0, none⟩) gl.length gl.length], undef, undef, undef, undef, undef, undef, undef, undef, undef, undef, undef], defers := [] } W1 := by
    intro g1 g2 bo W1 hb h1 h2 h3 h4 h5 q1 q2 q3
    apply aK
    have hbl : bo < W1.heap.size := (Array.getElem?_eq_some_iff.1 h3).1
    have hn1 : g1 ≠ g2 := fun e => by subst e; rw [h1] at h2; simp at h2
    have hn2 : g1 ≠ bo := fun e => by subst e; rw [h1] at h3; simp at h3
    have hn3 : g2 ≠ bo := fun e => by subst e; rw [h2] at h3; simp at h3
    have z1 : ZoneIn W1 (.slice ad1 cl.length cap1) (.slice ad2 gl.length cap2) cl gl := HZ.out.below hb
    have o1 : W1.ownsRow w.heap.size 47 2 (.slice (some ⟨g1, 0, none⟩) cl.length cl.length) cl.length (madeCells #[.int .i64 0, .int .i64 0] (cl.length * 2)).toList :=
      ⟨by simp [size_madeCells], .inr ⟨g1, cl.length, _, rfl, by omega, h1, Nat.le_refl _, by unfold maxLen; omega, by simp [size_madeCells], List.take_of_length_le (by simp [size_madeCells])⟩⟩
    have o2 : W1.ownsRow w.heap.size 3 1 (.slice (some ⟨g2, 0, none⟩) gl.length gl.length) gl.length (madeCells #[.int .i64 0] gl.length).toList :=
      ⟨by simp [size_madeCells], .inr ⟨g2, gl.length, _, rfl, by omega, h2, Nat.le_refl _, by unfold maxLen; omega, by simp [size_madeCells], List.take_of_length_le (by simp [size_madeCells])⟩⟩
    have c1 : W1.cell? ⟨bo, 0, none⟩ = some (.slice (some ⟨g1, 0, none⟩) cl.length cl.length) := by simp [World.cell?, h3]
    have c3 : W1.cell? ⟨w.heap.size, 0, none⟩ = some (.slice ad1 cl.length cap1) := by simp [World.cell?, h4]
    obtain ⟨W2, k1, o1', hg1⟩ := run_copyI (P := Tryz.prog) (w := W1) 25 25 3 47 Tryz.underlying25 2 (by rw [hi0]; simp [hz1]) o1 z1.1 (cellsP_one _)
    have o2' := owns_turn o2 hg1 h1 (by decide)
    have z2' := (HZ.out.below (hb.grown hg1 hb.size (fun k e => by cases e; omega))).2
    obtain ⟨W3, k2, o2'', hg2⟩ := run_copyI (P := Tryz.prog) (w := W2) 26 26 3 3 Tryz.underlying26 1 (by rw [hi1]; simp [hy1]) o2' z2' (ints_one _)
    have h2' : W2.heap[g2]? = _ := (hg1.block g2 (Array.getElem?_eq_some_iff.1 h2).1 (by simp; omega)).trans h2
    have o1'' := owns_turn o1' hg2 h2' (by decide)
    have e3 : W2.heap[bo]? = _ := (hg1.block bo hbl (by simp; omega)).trans h3
    have e4 : W2.heap[w.heap.size]? = _ := (hg1.block _ (Array.getElem?_eq_some_iff.1 h4).1 (by simp; omega)).trans h4
    have e5 : W2.heap[w.heap.size + 1]? = _ := (hg1.block _ (Array.getElem?_eq_some_iff.1 h5).1 (by simp; omega)).trans h5
    have f3 : W3.heap[bo]? = _ := (hg2.block bo (Nat.lt_of_lt_of_le hbl hg1.size) (by simp; omega)).trans e3
    have f5 : W3.heap[w.heap.size + 1]? = _ := (hg2.block _ (Array.getElem?_eq_some_iff.1 e5).1 (by simp; omega)).trans e5
    have d1 : W2.cell? ⟨bo, 1, none⟩ = some (.slice (some ⟨g2, 0, none⟩) gl.length gl.length) := by simp [World.cell?, e3]
    have d2 : W2.cell? ⟨w.heap.size, 1, none⟩ = some (.slice ad2 gl.length cap2) := by simp [World.cell?, e4]
    have d3 : W3.cell? ⟨bo, 0, none⟩ = some (.slice (some ⟨g1, 0, none⟩) cl.length cl.length) := by simp [World.cell?, f3]
    have d4 : W3.cell? ⟨bo, 1, none⟩ = some (.slice (some ⟨g2, 0, none⟩) gl.length gl.length) := by simp [World.cell?, f3]
    have d5 : W3.cell? ⟨w.heap.size + 1, 0, none⟩ = some (.slice none 0 0) := by simp [World.cell?, f5]
    have d6 : W3.cell? ⟨w.heap.size + 1, 1, none⟩ = some (.slice none 0 0) := by simp [World.cell?, f5]
    have d7 : W3.frozen? ⟨w.heap.size + 1, 0, none⟩ = false := by simp [World.frozen?, f5]
    have d8 : W3.frozen? ⟨w.heap.size + 1, 1, none⟩ = false := by simp [World.frozen?, f5]
    have HB3 := Lib.hid ((hb.grown hg1 hb.size (fun k e => by cases e; omega)).grown hg2 (Nat.le_trans hb.size hg1.size) (fun k e => by cases e; omega))
    have HO1 := Lib.hid o1''
    have HO2 := Lib.hid o2''
    have hlt : w.heap.size + 1 < W3.heap.size := (Array.getElem?_eq_some_iff.1 f5).1
    clear hb o1 o2 z1 o1' o2' z2' o1'' o2'' hg1 hg2 h1 h2 h3 h4 h5 h2' e3 e4 e5 f3 f5
    go_wp2
    have r0 : ((W3.setCell ⟨w.heap.size + 1, 0, none⟩ (.slice (some ⟨g1, 0, none⟩) cl.length cl.length)).setCell ⟨w.heap.size + 1, 1, none⟩ (.slice (some ⟨g2, 0, none⟩) gl.length gl.length)).cell? ⟨w.heap.size + 1, 0, none⟩ = some (.slice (some ⟨g1, 0, none⟩) cl.length cl.length) := by go_simp
    have r1 : ((W3.setCell ⟨w.heap.size + 1, 0, none⟩ (.slice (some ⟨g1, 0, none⟩) cl.length cl.length)).setCell ⟨w.heap.size + 1, 1, none⟩ (.slice (some ⟨g2, 0, none⟩) gl.length gl.length)).cell? ⟨w.heap.size + 1, 1, none⟩ = some (.slice (some ⟨g2, 0, none⟩) gl.length gl.length) := by go_simp
    refine bodyPost_ret (v := .agg #[.slice (some ⟨g1, 0, none⟩) cl.length cl.length, .slice (some ⟨g2, 0, none⟩) gl.length gl.length]) (by simp [results, Tryz.results50, go_sem, r0, r1]) rfl ?_
    refine ⟨_, _, rfl, ⟨ownsRow_setCell_other (ownsRow_setCell_other HO1.out ?_ _) ?_ _, ownsRow_setCell_other (ownsRow_setCell_other HO2.out ?_ _) ?_ _⟩, (HB3.out.setCell (p := ⟨w.heap.size + 1, 0, none⟩) (by simp) _).setCell (p := ⟨w.heap.size + 1, 1, none⟩) (by simp) _⟩
    all_goals simp [Value.ownBlock]; omega
  clear aK
  go_region
  all_goals (refine HK _ _ _ _ ?_ ?_ ?_ ?_ ?_ ?_ ?_ ?_ ?_)
  all_goals first
    | omega
    | exact Below.drew ((((((Below.refl _ w).alloc (Nat.le_refl _) _).alloc (by simp) _).alloc (by simp; omega) _).alloc (by simp; omega) _).alloc (by simp; omega) _)
    | (rw [heap_drew']; simp only [alloc_get, World.size_alloc, if_true]; done)
    | (rw [heap_drew']; simp only [alloc_get, World.size_alloc, if_true]; repeat' split
       all_goals first | rfl | (exfalso; omega))

set_option maxRecDepth 100000 in
set_option maxHeartbeats 4000000 in
theorem dropClipI_any (v1 v2 : Value) (cl0 : List (Int × Int)) (gl0 : List Int) (r : Int) (w : World) (hz : ZoneIn w v1 v2 cl0 gl0) (hcl : cl0.length ≤ 65536) (hgl : gl0.length ≤ 65536) :
    Calls Tryz.prog 106 #[.agg #[v1, v2], .int .i64 r] w fun e w' => ∃ g1 g2, e = .returned (.agg #[.slice (some ⟨g1, 0, none⟩) cl0.length cl0.length, .slice (some ⟨g2, 0, none⟩) gl0.length gl0.length]) ∧
      ZoneAt w' w.heap.size (.slice (some ⟨g1, 0, none⟩) cl0.length cl0.length) (.slice (some ⟨g2, 0, none⟩) gl0.length gl0.length) cl0 (gl0.map fun g => klip g r) ∧ Below w.heap.size w w' := by
  have x1 := (Box2.new w v1 v2).alloc (.cells #[.slice none 0 0, .slice none 0 0] 28)
  have x2 := Box2.new (w.alloc (.cells #[v1, v2] 28)) (.slice none 0 0) (.slice none 0 0)
  simp only [World.size_alloc] at x2
  have hb0 : Below w.heap.size w ((w.alloc (.cells #[v1, v2] 28)).alloc (.cells #[.slice none 0 0, .slice none 0 0] 28)) := ((Below.refl _ w).alloc (Nat.le_refl _) _).alloc (by simp) _
  have z0 : ZoneIn ((w.alloc (.cells #[v1, v2] 28)).alloc (.cells #[.slice none 0 0, .slice none 0 0] 28)) v1 v2 cl0 gl0 := hz.below hb0
  have hs0 : ((w.alloc (.cells #[v1, v2] 28)).alloc (.cells #[.slice none 0 0, .slice none 0 0] 28)).heap.size = w.heap.size + 2 := by simp
  have hown := Lib.hid (dropOwnI_any v1 v2 cl0 gl0 _ z0 hcl hgl)
  obtain ⟨N, hN⟩ : ∃ N, cl0.length = N := ⟨_, rfl⟩
  obtain ⟨M, hM⟩ : ∃ M, gl0.length = M := ⟨_, rfl⟩
  rw [hN] at hcl; rw [hM] at hgl
  have X1 := Lib.hid x1; have X2 := Lib.hid x2; have HB0 := Lib.hid hb0; have Z0 := Lib.hid z0; have HS0 := Lib.hid hs0
  have HN := Lib.hid hN; have HM := Lib.hid hM
  clear x1 x2 hb0 z0 hs0 hN hM
  go_enter Tryz.func106, Tryz.ntmps106
  go_wp2_with fail
  refine hown.out.mono ?_
  rintro e W2 ⟨g1, g2, rfl, zo, hb⟩
  rw [HN.out, HM.out] at zo ⊢
  have hsz2 := hb.size
  rw [HS0.out] at hsz2 zo
  have y1 := (X1.out.kept (row := none) ⟨hb.os, hb.tape, hb.output, hb.size, fun k hk _ => hb.block k hk⟩ (by simp)).alloc (.cells #[.slice (some ⟨g1, 0, none⟩) N N, .slice (some ⟨g2, 0, none⟩) M M] 28)
  have y2 := (X2.out.kept (row := none) ⟨hb.os, hb.tape, hb.output, hb.size, fun k hk _ => hb.block k hk⟩ (by simp)).alloc (.cells #[.slice (some ⟨g1, 0, none⟩) N N, .slice (some ⟨g2, 0, none⟩) M M] 28)
  have y7 := Box2.new W2 (.slice (some ⟨g1, 0, none⟩) N N) (.slice (some ⟨g2, 0, none⟩) M M)
  have hb2 : Below w.heap.size w (W2.alloc (.cells #[.slice (some ⟨g1, 0, none⟩) N N, .slice (some ⟨g2, 0, none⟩) M M] 28)) := (HB0.out.trans (hb.mono HB0.out.size)).alloc (by omega) _
  have zo2 : ZoneAt (W2.alloc (.cells #[.slice (some ⟨g1, 0, none⟩) N N, .slice (some ⟨g2, 0, none⟩) M M] 28)) (w.heap.size + 2) (.slice (some ⟨g1, 0, none⟩) N N) (.slice (some ⟨g2, 0, none⟩) M M) cl0 gl0 := zo.below ((Below.refl _ W2).alloc (Nat.le_refl _) _)
  have zo3 := zo2.1
  have zo4 := zo2.2
  rw [HN.out] at zo3
  rw [HM.out] at zo4
  have hpos : ∀ k x, gl0[k]? = some x → (clipG gl0 r k)[k]? = some x := fun k x h => (clipG_get gl0 r k (List.getElem?_eq_some_iff.1 h).1).trans h
  have HP := Lib.hid hpos
  obtain ⟨cur1, q1, b1⟩ := owns_row zo3
  obtain ⟨cur2, q2, b2⟩ := owns_row zo4
  have hg12 : g1 ≠ g2 := fun e => by subst e; rw [q1] at q2; cases q2
  have hB2 : W2.heap.size ≠ g2 := fun e => by have := y7; unfold Box2 at this; rw [e, q2] at this; cases this
  have h0 : clipG gl0 r 0 = gl0 := by unfold clipG; simp
  have HZZ : Hid (Box2 (W2.alloc (.cells #[.slice (some ⟨g1, 0, none⟩) N N, .slice (some ⟨g2, 0, none⟩) M M] 28)) W2.heap.size (.slice (some ⟨g1, 0, none⟩) N N) (.slice (some ⟨g2, 0, none⟩) M M) ∧
      Box2 (W2.alloc (.cells #[.slice (some ⟨g1, 0, none⟩) N N, .slice (some ⟨g2, 0, none⟩) M M] 28)) (w.heap.size + 1) (.slice none 0 0) (.slice none 0 0) ∧
      (W2.alloc (.cells #[.slice (some ⟨g1, 0, none⟩) N N, .slice (some ⟨g2, 0, none⟩) M M] 28)).ownsRow (w.heap.size + 2) 47 2 (.slice (some ⟨g1, 0, none⟩) N N) N (cellsP cl0) ∧
      (W2.alloc (.cells #[.slice (some ⟨g1, 0, none⟩) N N, .slice (some ⟨g2, 0, none⟩) M M] 28)).ownsRow (w.heap.size + 2) 3 1 (.slice (some ⟨g2, 0, none⟩) M M) M (ints (clipG gl0 r 0)) ∧
      Below w.heap.size w (W2.alloc (.cells #[.slice (some ⟨g1, 0, none⟩) N N, .slice (some ⟨g2, 0, none⟩) M M] 28))) := ⟨y7, y2, zo3, by rw [h0]; exact zo4, hb2⟩
  have hmx : Tryz.prog.follows .mixedOrders = true := by kernel_rfl
  have c1 := y7.c1
  clear hb y1 y2 y7 hb2 zo zo2 zo3 zo4 q1 q2 X1 X2 HB0 Z0 hown hpos h0
  go_wp2
  go_loopw [6, 7, 13] (fun _ _ i wr => ∃ k : Nat, i = .int .i64 k ∧ k ≤ M ∧ Hid (Box2 wr W2.heap.size (.slice (some ⟨g1, 0, none⟩) N N) (.slice (some ⟨g2, 0, none⟩) M M) ∧ Box2 wr (w.heap.size + 1) (.slice none 0 0) (.slice none 0 0) ∧
      wr.ownsRow (w.heap.size + 2) 47 2 (.slice (some ⟨g1, 0, none⟩) N N) N (cellsP cl0) ∧ wr.ownsRow (w.heap.size + 2) 3 1 (.slice (some ⟨g2, 0, none⟩) M M) M (ints (clipG gl0 r k)) ∧ Below w.heap.size w wr)) (fun _ _ i _ => M - (intOf i).toNat)
  case atStart => exact ⟨0, rfl, Nat.zero_le _, HZZ.out⟩
  case round =>
    clear HZZ
    obtain ⟨k, rfl, hk, HA⟩ := hrel
    have c1 := HA.out.1.c1
    by_cases hlt : k < M
    · have hkl : k < gl0.length := by rw [HM.out]; exact hlt
      obtain ⟨x, hx⟩ : ∃ x, gl0[k]? = some x := ⟨_, List.getElem?_eq_getElem hkl⟩
      have HST := Lib.hid (clipG_step gl0 r k x hx)
      have k1 : wr.cell? ⟨g2, k, none⟩ = some (.int .i64 x) := by
        rw [HA.out.2.2.2.1.cellAt _ (by omega)]
        simp [ints, HP.out k x hx]
      have k3 := owns_frozen HA.out.2.2.2.1 k
      have p1 : (k : Int) < (M : Int) := by omega
      have p0 : (0 : Int) ≤ (k : Int) := by omega
      clear hx
      go_wp2
      refine wp_region_still_tail 7 hmx (by kernel_rfl) ?_
      simp only [List.take_succ_cons, List.take_zero, List.drop_succ_cons, List.drop_zero]
      repeat still_step
      still_call ((clip_any x r _).mono fun e w' h => ⟨h.1, h.2.symm⟩)
      repeat still_step
      refine wpStill_nil ?_
      change wpList _ _ _ _ _ wr.drew
      obtain ⟨W9, hW9⟩ : ∃ W9, wr.drew = W9 := ⟨_, rfl⟩
      have HA9 : Hid (Box2 W9 W2.heap.size (.slice (some ⟨g1, 0, none⟩) N N) (.slice (some ⟨g2, 0, none⟩) M M) ∧ Box2 W9 (w.heap.size + 1) (.slice none 0 0) (.slice none 0 0) ∧
        W9.ownsRow (w.heap.size + 2) 47 2 (.slice (some ⟨g1, 0, none⟩) N N) N (cellsP cl0) ∧ W9.ownsRow (w.heap.size + 2) 3 1 (.slice (some ⟨g2, 0, none⟩) M M) M (ints (clipG gl0 r k)) ∧ Below w.heap.size w W9) := by
        rw [← hW9]; exact ⟨HA.out.1, HA.out.2.1, HA.out.2.2.1, HA.out.2.2.2.1, HA.out.2.2.2.2.drew⟩
      have k1' : W9.cell? ⟨g2, k, none⟩ = some (.int .i64 x) := by rw [← hW9]; exact k1
      have k3' : W9.frozen? ⟨g2, k, none⟩ = false := by rw [← hW9]; exact k3
      rw [hW9]
      clear hW9 HA k1 k3 c1
      obtain ⟨z, hz⟩ : ∃ z, klip x r = z := ⟨_, rfl⟩
      unfold Hid at HST
      rw [hz] at HST ⊢
      have HST := Lib.hid HST
      have HG : Hid (Box2 (W9.setCell ⟨g2, k, none⟩ (.int .i64 z)) W2.heap.size (.slice (some ⟨g1, 0, none⟩) N N) (.slice (some ⟨g2, 0, none⟩) M M) ∧ Box2 (W9.setCell ⟨g2, k, none⟩ (.int .i64 z)) (w.heap.size + 1) (.slice none 0 0) (.slice none 0 0) ∧
        (W9.setCell ⟨g2, k, none⟩ (.int .i64 z)).ownsRow (w.heap.size + 2) 47 2 (.slice (some ⟨g1, 0, none⟩) N N) N (cellsP cl0) ∧ (W9.setCell ⟨g2, k, none⟩ (.int .i64 z)).ownsRow (w.heap.size + 2) 3 1 (.slice (some ⟨g2, 0, none⟩) M M) M (ints (clipG gl0 r (k + 1))) ∧ Below w.heap.size w (W9.setCell ⟨g2, k, none⟩ (.int .i64 z))) := by
        refine ⟨HA9.out.1.other _ hB2 _, HA9.out.2.1.other _ (by simp; omega) _, ownsRow_setCell_other HA9.out.2.2.1 (by simp [Value.ownBlock]; omega) _, ?_, HA9.out.2.2.2.2.setCell (p := ⟨g2, k, none⟩) (by simp; omega) _⟩
        rw [HST.out, show ints ((clipG gl0 r k).set k z) = (ints (clipG gl0 r k)).set k (.int .i64 z) by unfold ints; rw [List.map_set]]
        exact owns_set HA9.out.2.2.2.1 _ _
      clear HA9 hz
      go_wp2
      go_roundw
      case rel => exact ⟨k + 1, by go_num, by omega, HG⟩
      case measure => simp [intOf]; omega
    · obtain rfl : k = M := by omega
      have c0 := HA.out.1.c0
      have c3 := HA.out.2.1.c0; have c4 := HA.out.2.1.c1; have c5 := HA.out.2.1.z0 0; have c6 := HA.out.2.1.z0 1
      have c7 := HA.out.2.1.lt
      have HE : Hid (clipG gl0 r k = gl0.map fun g => klip g r) := by unfold Hid; rw [← HM.out]; exact clipG_all gl0 r
      go_wp2
      have v1 := (HA.out.2.1.s0 (.slice (some ⟨g1, 0, none⟩) N N)).s1 (.slice (some ⟨g2, 0, none⟩) k k)
      have e6 := v1.c0; have e7 := v1.c1
      refine bodyPost_ret (v := .agg #[.slice (some ⟨g1, 0, none⟩) N N, .slice (some ⟨g2, 0, none⟩) k k]) (by simp [results, Tryz.results106, go_sem, e6, e7]) rfl ?_
      rw [HN.out, HM.out]
      have hml : (gl0.map fun g => klip g r).length = k := by rw [List.length_map]; exact HM.out
      refine ⟨g1, g2, rfl, ZoneAt.mono ⟨?_, ?_⟩ (by omega : w.heap.size ≤ w.heap.size + 2), (HA.out.2.2.2.2.setCell (p := ⟨w.heap.size + 1, 0, none⟩) (by simp) _).setCell (p := ⟨w.heap.size + 1, 1, none⟩) (by simp) _⟩
      · rw [HN.out]; exact ownsRow_setCell_other (ownsRow_setCell_other HA.out.2.2.1 (HA.out.2.1.row HA.out.2.2.1 (by decide)) _) (HA.out.2.1.row HA.out.2.2.1 (by decide)) _
      · rw [hml, ← HE.out]; exact ownsRow_setCell_other (ownsRow_setCell_other HA.out.2.2.2.1 (HA.out.2.1.row HA.out.2.2.2.1 (by decide)) _) (HA.out.2.1.row HA.out.2.2.2.1 (by decide)) _

end Go.Proofs.YtkkoooagamadjaaGreatDoor

namespace Go.Proofs.YtkkoooagamadjaaGreatDoor
open Go.RowKit Go.ChangeShapes Go.WideShapes Go.Deep

section
variable {H : Type} {enc : TypeId × Value → H} {w : World} {base : Nat} {sp : Nat → Bool} {hd : Bool}

theorem celz_int : Tryz.prog.cellsOf 3 = 1 := by kernel_rfl
theorem celz_cls : Tryz.prog.cellsOf 47 = 2 := by kernel_rfl
theorem celz_zone : Tryz.prog.cellsOf 28 = 2 := by kernel_rfl
theorem celz_cs : Tryz.prog.cellsOf 25 = 1 := by kernel_rfl
theorem celz_is : Tryz.prog.cellsOf 26 = 1 := by kernel_rfl

def In64 (x : Int) : Prop := -9223372036854775808 ≤ x ∧ x ≤ 9223372036854775807
def ClsOK (c : Int × Int) : Prop := In64 c.1 ∧ In64 c.2

set_option maxRecDepth 100000 in
theorem opz_cls {fuel : Nat} {cs : List Value} {x : DataW H × List MemPlace} (h : DataW.trod enc Tryz.prog w base sp hd fuel 47 cs = some x) : ∃ c : Int × Int, cs = [.int .i64 c.1, .int .i64 c.2] ∧ ClsOK c := by
  obtain ⟨xs, n, _, _, hlen, hxl, hf⟩ := DataW.trod_struct Tryz.underlying47 h
  rw [celz_cls] at hlen
  match cs, hlen with
  | [v0, v1], _ =>
    have hx0 := List.getElem?_eq_getElem (show 0 < xs.length by rw [hxl]; decide)
    have hx1 := List.getElem?_eq_getElem (show 1 < xs.length by rw [hxl]; decide)
    have g0 : DataW.trod enc Tryz.prog w base sp hd n 3 (([v0, v1].drop 0).take (Tryz.prog.cellsOf 3)) = xs[0]? := hf 0 _ rfl
    have g1 : DataW.trod enc Tryz.prog w base sp hd n 3 (([v0, v1].drop 1).take (Tryz.prog.cellsOf 3)) = xs[1]? := hf 1 _ rfl
    rw [hx0] at g0; rw [hx1] at g1
    simp only [celz_int, List.drop, List.take] at g0 g1
    obtain ⟨a, e0, _, w0⟩ := DataW.trod_int Tryz.underlying3 g0
    obtain ⟨b, e1, _, w1⟩ := DataW.trod_int Tryz.underlying3 g1
    simp only [List.cons.injEq, and_true] at e0 e1
    exact ⟨(a, b), by rw [e0, e1], bounds_i64 w0, bounds_i64 w1⟩

set_option maxRecDepth 100000 in
theorem opz_cs {fuel : Nat} {ad : Option Addr} {n cap : Nat} {x : DataW H × List MemPlace} (h : DataW.trod enc Tryz.prog w base sp hd fuel 25 [.slice ad n cap] = some x) :
    ∃ T : List (Int × Int), T.length = n ∧ RdK w 2 (.slice ad n cap) n (cellsP T) ∧ n ≤ cap ∧ ∀ y ∈ T, ClsOK y := by
  rcases open_slice Tryz.underlying25 h with ⟨he, _⟩ | ⟨a, len, c, m, k, D, Pl, he, hb, hl, hm, hmm, hx, hall⟩
  · simp only [List.cons.injEq, Value.slice.injEq, and_true] at he
    obtain ⟨rfl, rfl, rfl⟩ := he
    exact ⟨[], rfl, ⟨none, 0, rfl, rfl, .inl rfl⟩, Nat.le_refl _, fun y hy => by cases hy⟩
  · simp only [List.cons.injEq, Value.slice.injEq, and_true] at he
    obtain ⟨rfl, rfl, rfl⟩ := he
    have hnm : n ≤ m := by rw [hmm]; split <;> omega
    have each : ∀ i, i < n → ∃ t : Int × Int, ClsOK t ∧ w.cell? (a.add (i * 2)) = some (.int .i64 t.1) ∧ w.cell? (a.add (i * 2 + 1)) = some (.int .i64 t.2) := by
      intro i hi
      obtain ⟨cs, h1, h2⟩ := hall i (by omega)
      rw [celz_cls] at h1
      obtain ⟨t, rfl, hnum⟩ := opz_cls h2
      obtain ⟨_, hlen, hcell⟩ := World.cells?_some h1
      refine ⟨t, hnum, ?_, ?_⟩
      · have := hcell 0 (by decide)
        rw [add_add] at this
        exact this
      · have := hcell 1 (by decide)
        rw [add_add] at this
        exact this
    obtain ⟨t, ht⟩ := choose_lt each
    by_cases h0 : n = 0
    · subst h0
      exact ⟨[], rfl, ⟨_, cap, rfl, rfl, .inl rfl⟩, hl, fun y hy => by cases hy⟩
    have hz := (ht 0 (by omega)).2.1
    obtain ⟨b, off, spot⟩ := a
    have hspot : spot = none := by simpa [Addr.add] using World.cell?_spot hz
    subst hspot
    have hadd : ∀ i, (⟨b, off, none⟩ : Addr).add i = ⟨b, off + i, none⟩ := fun i => by unfold Addr.add; split <;> simp_all
    refine ⟨(List.range n).map t, by simp, ⟨_, cap, rfl, by rw [cellsP_len]; simp, .inr ⟨b, off, rfl, World.block_lt_of_cell? w _ (by rw [hadd] at hz; exact hz), fun j y hy => ?_⟩⟩, hl, ?_⟩
    · have hj := (List.getElem?_eq_some_iff.1 hy).1
      rw [cellsP_len, List.length_map, List.length_range] at hj
      obtain ⟨i, hi, e⟩ : ∃ i, i < n ∧ (j = i * 2 ∨ j = i * 2 + 1) := ⟨j / 2, by omega, by omega⟩
      have hg : ((List.range n).map t)[i]? = some ((t i).1, (t i).2) := by simp [hi]
      obtain ⟨q1, q2⟩ := cellsP_get _ _ _ hg
      obtain ⟨_, e1, e2⟩ := ht i hi
      rw [hadd] at e1 e2
      rcases e with rfl | rfl
      · exact e1.trans (q1.symm.trans hy)
      · exact e2.trans (q2.symm.trans hy)
    · intro y hy
      obtain ⟨i, hi, rfl⟩ := List.mem_map.1 hy
      exact (ht i (by simpa using hi)).1

set_option maxRecDepth 100000 in
theorem opz_is {fuel : Nat} {ad : Option Addr} {n cap : Nat} {x : DataW H × List MemPlace} (h : DataW.trod enc Tryz.prog w base sp hd fuel 26 [.slice ad n cap] = some x) :
    ∃ T : List Int, T.length = n ∧ RdK w 1 (.slice ad n cap) n (ints T) ∧ ∀ y ∈ T, In64 y := by
  rcases open_slice Tryz.underlying26 h with ⟨he, _⟩ | ⟨a, len, c, m, k, D, Pl, he, hb, hl, hm, hmm, hx, hall⟩
  · simp only [List.cons.injEq, Value.slice.injEq, and_true] at he
    obtain ⟨rfl, rfl, rfl⟩ := he
    exact ⟨[], rfl, ⟨none, 0, rfl, rfl, .inl rfl⟩, fun y hy => by cases hy⟩
  · simp only [List.cons.injEq, Value.slice.injEq, and_true] at he
    obtain ⟨rfl, rfl, rfl⟩ := he
    have hnm : n ≤ m := by rw [hmm]; split <;> omega
    have each : ∀ i, i < n → ∃ t : Int, In64 t ∧ w.cell? (a.add i) = some (.int .i64 t) := by
      intro i hi
      obtain ⟨cs, h1, h2⟩ := hall i (by omega)
      rw [celz_int] at h1
      obtain ⟨t, rfl, _, wf⟩ := DataW.trod_int Tryz.underlying3 h2
      obtain ⟨_, hlen, hcell⟩ := World.cells?_some h1
      have := hcell 0 (by decide)
      rw [Nat.mul_one] at this
      refine ⟨t, bounds_i64 wf, ?_⟩
      rw [show (a.add i).add 0 = a.add i by rw [add_add, Nat.add_zero]] at this
      exact this
    obtain ⟨t, ht⟩ := choose_lt each
    by_cases h0 : n = 0
    · subst h0
      exact ⟨[], rfl, ⟨_, cap, rfl, rfl, .inl rfl⟩, fun y hy => by cases hy⟩
    have hz := (ht 0 (by omega)).2
    obtain ⟨b, off, spot⟩ := a
    have hspot : spot = none := by simpa [Addr.add] using World.cell?_spot hz
    subst hspot
    have hadd : ∀ i, (⟨b, off, none⟩ : Addr).add i = ⟨b, off + i, none⟩ := fun i => by unfold Addr.add; split <;> simp_all
    refine ⟨(List.range n).map t, by simp, ⟨_, cap, rfl, by simp [ints], .inr ⟨b, off, rfl, World.block_lt_of_cell? w _ (by rw [hadd] at hz; exact hz), fun j y hy => ?_⟩⟩, ?_⟩
    · have hi : j < n := by have := (List.getElem?_eq_some_iff.1 hy).1; simpa [ints] using this
      have e := (ht j hi).2
      rw [hadd] at e
      simp [ints, hi] at hy
      rw [e, hy]
    · intro y hy
      obtain ⟨i, hi, rfl⟩ := List.mem_map.1 hy
      exact (ht i (by simpa using hi)).1

set_option maxRecDepth 100000 in
/-- a zone that came in -/
theorem open_zone {fuel : Nat} {cs : List Value} {x : DataW H × List MemPlace} (h : DataW.trod enc Tryz.prog w base sp hd fuel 28 cs = some x) :
    ∃ v1 v2 cl gl, cs = [v1, v2] ∧ ZoneIn w v1 v2 cl gl ∧ (∀ ad n c, v1 = .slice ad n c → n ≤ c) ∧ (∀ c ∈ cl, ClsOK c) ∧ ∀ g ∈ gl, In64 g := by
  obtain ⟨xs, n, _, _, hlen, hxl, hf⟩ := DataW.trod_struct Tryz.underlying28 h
  rw [celz_zone] at hlen
  match cs, hlen with
  | [v0, v1], _ =>
    have hx0 := List.getElem?_eq_getElem (show 0 < xs.length by rw [hxl]; decide)
    have hx1 := List.getElem?_eq_getElem (show 1 < xs.length by rw [hxl]; decide)
    have g0 : DataW.trod enc Tryz.prog w base sp hd n 25 (([v0, v1].drop 0).take (Tryz.prog.cellsOf 25)) = xs[0]? := hf 0 _ rfl
    have g1 : DataW.trod enc Tryz.prog w base sp hd n 26 (([v0, v1].drop 1).take (Tryz.prog.cellsOf 26)) = xs[1]? := hf 1 _ rfl
    rw [hx0] at g0; rw [hx1] at g1
    simp only [celz_cs, celz_is, List.drop, List.take] at g0 g1
    have f0 : ∃ ad n cap, v0 = .slice ad n cap := by
      rcases open_slice Tryz.underlying25 g0 with ⟨he, _⟩ | ⟨a, len, c, m, k, D, Pl, he, _⟩
      · simp only [List.cons.injEq, and_true] at he; exact ⟨_, _, _, he⟩
      · simp only [List.cons.injEq, and_true] at he; exact ⟨_, _, _, he⟩
    have f1 : ∃ ad n cap, v1 = .slice ad n cap := by
      rcases open_slice Tryz.underlying26 g1 with ⟨he, _⟩ | ⟨a, len, c, m, k, D, Pl, he, _⟩
      · simp only [List.cons.injEq, and_true] at he; exact ⟨_, _, _, he⟩
      · simp only [List.cons.injEq, and_true] at he; exact ⟨_, _, _, he⟩
    obtain ⟨ad0, n0, cap0, rfl⟩ := f0
    obtain ⟨ad1, n1, cap1, rfl⟩ := f1
    obtain ⟨cl, hl0, r0, hc0, hb0⟩ := opz_cs g0
    obtain ⟨gl, hl1, r1, hb1⟩ := opz_is g1
    exact ⟨_, _, cl, gl, rfl, ⟨by rw [hl0]; exact r0, by rw [hl1]; exact r1⟩, fun ad n c e => by cases e; exact hc0, hb0, hb1⟩
end
end Go.Proofs.YtkkoooagamadjaaGreatDoor
