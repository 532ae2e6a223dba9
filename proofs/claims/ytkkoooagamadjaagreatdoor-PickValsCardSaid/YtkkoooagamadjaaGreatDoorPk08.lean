/- formed and cut of package drop. -/
import Derived.Test.YtkkoooagamadjaaGreatDoorPk07
import Derived.StillTailTactics

namespace Go.Proofs.YtkkoooagamadjaaGreatDoor
open Go.RowKit

set_option maxHeartbeats 400000 in
theorem formed_any (base : Nat) (v1 v2 : Value) (cl : List (Int × Int)) (gl : List Int) (w : World) (hz : ZoneAt w base v1 v2 cl gl) (hcl : cl.length ≤ 65536) :
    Calls Tryz.prog 51 #[.agg #[v1, v2]] w fun e w' => e = .returned (.bool (decide (gl.length = cl.length - 1))) ∧ Below w.heap.size w w' := by
  obtain ⟨ad1, cap1, rfl⟩ := owns_len hz.1
  obtain ⟨ad2, cap2, rfl⟩ := owns_len hz.2
  obtain ⟨n, hn⟩ : ∃ n, cl.length = n := ⟨_, rfl⟩
  obtain ⟨m, hm⟩ : ∃ m, gl.length = m := ⟨_, rfl⟩
  rw [hn] at hcl ⊢; rw [hm]
  clear hz hn hm
  have hcase : n = 0 ∨ n = 1 ∨ 1 < n := by omega
  rcases hcase with rfl | rfl | h1
  all_goals
    go_enter Tryz.func51, Tryz.ntmps51
    go_wp2
    go_ret
    refine ⟨ret_bool ?_, (Below.refl _ w).alloc (Nat.le_refl _) _⟩
    rw [Bool.eq_iff_iff]
    simp
    try omega

theorem del_int' (g n cap base i : Nat) (a b : Int) (l : List Int) (w : World) (hown : w.ownsRow base 3 1 (.slice (some ⟨g, 0, none⟩) n cap) n (ints l)) (hi : i < n) (ha : a = i) (hb : b = i + 1) :
    Calls Tryz.prog 86 #[.slice (some ⟨g, 0, none⟩) n cap, .int .i64 a, .int .i64 b] w fun e w' => e = .returned (.slice (some ⟨g, 0, none⟩) (n - 1) cap) ∧
      w'.ownsRow base 3 1 (.slice (some ⟨g, 0, none⟩) (n - 1) cap) (n - 1) (ints (l.eraseIdx i)) ∧ w.grownBy w' (some g) := by
  subst ha; subst hb
  have hm : cap ≤ 9223372036854775807 := by
    rcases hown.2 with ⟨h0, _⟩ | ⟨g', cap', cur, hv, _, _, _, hc, _⟩
    · cases h0
    · cases hv; unfold maxLen at hc; omega
  have e : ints (l.eraseIdx i) = (ints l).take i ++ (ints l).drop (i + 1) := by
    rw [List.eraseIdx_eq_take_drop_succ]; simp [ints]
  rw [e]
  exact del_int g n cap base i (ints l) w hown (ints_one _) hi hm

theorem cellsP_take (l : List (Int × Int)) (i : Nat) : (cellsP l).take (i * 2) = cellsP (l.take i) := by
  induction l generalizing i with
  | nil => simp [cellsP]
  | cons p r ih =>
    cases i with
    | zero => simp [cellsP]
    | succ i =>
      rw [show (i + 1) * 2 = i * 2 + 1 + 1 by omega, List.take_succ_cons]
      simp only [cellsP, List.flatMap_cons, List.cons_append, List.nil_append, List.take_succ_cons] at *
      rw [ih]
theorem cellsP_drop (l : List (Int × Int)) (i : Nat) : (cellsP l).drop (i * 2) = cellsP (l.drop i) := by
  induction l generalizing i with
  | nil => simp [cellsP]
  | cons p r ih =>
    cases i with
    | zero => simp
    | succ i =>
      rw [show (i + 1) * 2 = i * 2 + 1 + 1 by omega, List.drop_succ_cons]
      simp only [cellsP, List.flatMap_cons, List.cons_append, List.nil_append, List.drop_succ_cons] at *
      exact ih i
theorem cellsP_append (l r : List (Int × Int)) : cellsP (l ++ r) = cellsP l ++ cellsP r := by simp [cellsP]

theorem del_cls' (g n cap base i : Nat) (a b : Int) (l : List (Int × Int)) (w : World) (hown : w.ownsRow base 47 2 (.slice (some ⟨g, 0, none⟩) n cap) n (cellsP l)) (hi : i < n) (ha : a = i) (hb : b = i + 1) :
    Calls Tryz.prog 88 #[.slice (some ⟨g, 0, none⟩) n cap, .int .i64 a, .int .i64 b] w fun e w' => e = .returned (.slice (some ⟨g, 0, none⟩) (n - 1) cap) ∧
      w'.ownsRow base 47 2 (.slice (some ⟨g, 0, none⟩) (n - 1) cap) (n - 1) (cellsP (l.eraseIdx i)) ∧ w.grownBy w' (some g) := by
  subst ha; subst hb
  have hm : cap ≤ 9223372036854775807 := by
    rcases hown.2 with ⟨h0, _⟩ | ⟨g', cap', cur, hv, _, _, _, hc, _⟩
    · cases h0
    · cases hv; unfold maxLen at hc; omega
  have e : cellsP (l.eraseIdx i) = (cellsP l).take (i * 2) ++ (cellsP l).drop ((i + 1) * 2) := by
    rw [List.eraseIdx_eq_take_drop_succ, cellsP_append, cellsP_take, cellsP_drop]
  rw [e]
  exact del_cls g n cap base i (cellsP l) w hown (cellsP_one _) hi hm

/-- the gaps without a class -/
def cutG (gl : List Int) (n i : Nat) (r : Int) : List Int :=
  if n = 1 then gl else if i = 0 then gl.eraseIdx 0 else if i = n - 1 then gl.eraseIdx (n - 2) else (gl.set (i - 1) (merge (gl.getD (i - 1) 0) (gl.getD i 0) r)).eraseIdx i

theorem owns_row {w : World} {base : Nat} {e : TypeId} {sz g n cap : Nat} {xs : List Value} (h : w.ownsRow base e sz (.slice (some ⟨g, 0, none⟩) n cap) n xs) : ∃ cur, w.heap[g]? = some (.cells cur e (0, 0)) ∧ base ≤ g := by
  rcases h.2 with ⟨h0, _⟩ | ⟨g', cap', cur, hv, hb, hg, _⟩
  · cases h0
  · cases hv; exact ⟨cur, hg, hb⟩

/-- a zone's two cells in a block of their own -/
def Box2 (W : World) (B : Nat) (a b : Value) : Prop := W.heap[B]? = some (.cells #[a, b] 28 (0, 0))
theorem Box2.lt {W : World} {B : Nat} {a b : Value} (h : Box2 W B a b) : B < W.heap.size := (Array.getElem?_eq_some_iff.1 h).1
theorem Box2.c0 {W : World} {B : Nat} {a b : Value} (h : Box2 W B a b) : W.cell? ⟨B, 0, none⟩ = some a := by simp [World.cell?, show W.heap[B]? = _ from h]
theorem Box2.c1 {W : World} {B : Nat} {a b : Value} (h : Box2 W B a b) : W.cell? ⟨B, 1, none⟩ = some b := by simp [World.cell?, show W.heap[B]? = _ from h]
theorem Box2.z0 {W : World} {B : Nat} {a b : Value} (h : Box2 W B a b) (j : Nat) : W.frozen? ⟨B, j, none⟩ = false := by simp [World.frozen?, show W.heap[B]? = _ from h]
theorem Box2.new (W : World) (a b : Value) : Box2 (W.alloc (.cells #[a, b] 28)) W.heap.size a b := World.alloc_heap_new W _
theorem Box2.kept {W W' : World} {B : Nat} {a b : Value} {row : Option Nat} (h : Box2 W B a b) (hg : W.grownBy W' row) (hne : row ≠ some B) : Box2 W' B a b := (hg.block B h.lt (fun e => hne e.symm)).trans h
theorem Box2.alloc {W : World} {B : Nat} {a b : Value} (h : Box2 W B a b) (o : Obj) : Box2 (W.alloc o) B a b := (Below.heap_alloc W o B h.lt).trans h
theorem Box2.s0 {W : World} {B : Nat} {a b : Value} (h : Box2 W B a b) (u : Value) : Box2 (W.setCell ⟨B, 0, none⟩ u) B u b := by
  obtain ⟨hlt, hk⟩ := Array.getElem?_eq_some_iff.1 h
  show (W.heap.modify B _)[B]? = _
  rw [Array.getElem?_eq_getElem (by rw [Array.size_modify]; exact hlt), Array.getElem_modify_self, hk]
  rfl
theorem Box2.s1 {W : World} {B : Nat} {a b : Value} (h : Box2 W B a b) (u : Value) : Box2 (W.setCell ⟨B, 1, none⟩ u) B a u := by
  obtain ⟨hlt, hk⟩ := Array.getElem?_eq_some_iff.1 h
  show (W.heap.modify B _)[B]? = _
  rw [Array.getElem?_eq_getElem (by rw [Array.size_modify]; exact hlt), Array.getElem_modify_self, hk]
  rfl
theorem Box2.other {W : World} {B : Nat} {a b : Value} (h : Box2 W B a b) (x : Addr) (hx : B ≠ x.block) (u : Value) : Box2 (W.setCell x u) B a b := (Below.heap_setCell W x u B hx).trans h
theorem Box2.row {W : World} {B : Nat} {a b : Value} (h : Box2 W B a b) {base : Nat} {e : TypeId} {sz n : Nat} {v : Value} {xs : List Value} (ho : W.ownsRow base e sz v n xs) (he : 28 ≠ e) : v.ownBlock ≠ some B := by
  rcases ho.2 with ⟨rfl, _⟩ | ⟨g', cap', cur, rfl, _, hg, _⟩
  · simp [Value.ownBlock]
  · intro e'
    have e2 : g' = B := by simpa [Value.ownBlock] using e'
    subst e2
    rw [show W.heap[g']? = _ from h] at hg; cases hg; exact he rfl

/-- a world in which of the old blocks two alone may have turned -/
structure K2 (g1 g2 : Nat) (w w' : World) : Prop where
  os : w'.os = w.os
  tape : w'.tape = w.tape
  output : w'.output = w.output
  size : w.heap.size ≤ w'.heap.size
  block : ∀ k, k < w.heap.size → k ≠ g1 → k ≠ g2 → w'.heap[k]? = w.heap[k]?
theorem K2.refl (g1 g2 : Nat) (w : World) : K2 g1 g2 w w := ⟨rfl, rfl, rfl, Nat.le_refl _, fun _ _ _ _ => rfl⟩
theorem K2.trans {g1 g2 : Nat} {a b c : World} (h : K2 g1 g2 a b) (k : K2 g1 g2 b c) : K2 g1 g2 a c :=
  ⟨k.os.trans h.os, k.tape.trans h.tape, k.output.trans h.output, Nat.le_trans h.size k.size, fun q hq h1 h2 => (k.block q (Nat.lt_of_lt_of_le hq h.size) h1 h2).trans (h.block q hq h1 h2)⟩
theorem K2.drew {g1 g2 : Nat} {a w : World} (h : K2 g1 g2 a w) : K2 g1 g2 a w.drew := ⟨h.os, h.tape, h.output, h.size, h.block⟩
theorem K2.alloc {g1 g2 : Nat} {a w : World} (h : K2 g1 g2 a w) (o : Obj) : K2 g1 g2 a (w.alloc o) :=
  h.trans ⟨rfl, rfl, rfl, by simp, fun k hk _ _ => Below.heap_alloc _ _ _ (by omega)⟩
theorem K2.setCell {g1 g2 : Nat} {a w : World} (h : K2 g1 g2 a w) {p : Addr} (hp : p.block = g1 ∨ p.block = g2 ∨ a.heap.size ≤ p.block) (u : Value) : K2 g1 g2 a (w.setCell p u) :=
  ⟨h.os, h.tape, h.output, Nat.le_trans h.size (by simp [World.setCell]), fun k hk h1 h2 => (Below.heap_setCell _ _ _ _ (by omega)).trans (h.block k hk h1 h2)⟩
theorem K2.grown1 {g1 g2 : Nat} {a w w' : World} (h : K2 g1 g2 a w) (hg : w.grownBy w' (some g1)) : K2 g1 g2 a w' :=
  h.trans ⟨hg.os, hg.tape, hg.output, hg.size, fun k hk h1 _ => hg.block k hk (fun e => h1 (by cases e; rfl))⟩
theorem K2.grown2 {g1 g2 : Nat} {a w w' : World} (h : K2 g1 g2 a w) (hg : w.grownBy w' (some g2)) : K2 g1 g2 a w' :=
  h.trans ⟨hg.os, hg.tape, hg.output, hg.size, fun k hk _ h2 => hg.block k hk (fun e => h2 (by cases e; rfl))⟩
theorem K2.below {g1 g2 base : Nat} {w w' : World} (h : K2 g1 g2 w w') (h1 : base ≤ g1) (h2 : base ≤ g2) (h3 : base ≤ w.heap.size) : Below base w w' :=
  ⟨h.os, h.tape, h.output, h.size, fun k hk => h.block k (by omega) (by omega) (by omega)⟩
theorem Box2.two {W W' : World} {B g1 g2 : Nat} {a b : Value} (h : Box2 W B a b) (hk : K2 g1 g2 W W') (h1 : B ≠ g1) (h2 : B ≠ g2) : Box2 W' B a b := (hk.block B h.lt h1 h2).trans h

set_option maxRecDepth 100000 in
set_option maxHeartbeats 4000000 in
theorem cut_run (base g1 g2 n m cap1 cap2 i : Nat) (cl : List (Int × Int)) (gl : List Int) (r : Int) (w : World) (hz : ZoneAt w base (.slice (some ⟨g1, 0, none⟩) n cap1) (.slice (some ⟨g2, 0, none⟩) m cap2) cl gl) (hn : cl.length = n) (hm : gl.length = m)
    (hcl : n ≤ 65536) (hmn : m = n - 1) (hi : i < n) :
    Calls Tryz.prog 54 #[.agg #[.slice (some ⟨g1, 0, none⟩) n cap1, .slice (some ⟨g2, 0, none⟩) m cap2], .int .i64 i, .int .i64 r] w fun e w' => ∃ u1 u2, e = .returned (.agg #[u1, u2]) ∧ u1 = .slice (some ⟨g1, 0, none⟩) (n - 1) cap1 ∧ u2 = .slice (some ⟨g2, 0, none⟩) (n - 1 - 1) cap2 ∧ ZoneAt w' base u1 u2 (cl.eraseIdx i) (cutG gl n i r) ∧ K2 g1 g2 w w' := by
  obtain ⟨z1, z2⟩ := hz
  rw [hn] at z1; rw [hm] at z2
  obtain ⟨cur1, q1, b1⟩ := owns_row z1
  obtain ⟨cur2, q2, b2⟩ := owns_row z2
  have l1 : g1 < w.heap.size := (Array.getElem?_eq_some_iff.1 q1).1
  have l2 : g2 < w.heap.size := (Array.getElem?_eq_some_iff.1 q2).1
  have hg12 : g1 ≠ g2 := fun e => by subst e; rw [q1] at q2; cases q2
  have HN := Lib.hid hn
  have HM := Lib.hid hm
  have hm1 : m ≤ n - 1 := by omega
  have hm2 : n - 1 ≤ m := by omega
  have HLE : Hid ((cl.eraseIdx i).length = n - 1) := by unfold Hid; rw [List.length_eraseIdx_of_lt (by omega)]; omega
  clear hn hm hmn q1 q2
  -- the two blocks that the call lays
  have x1 := (Box2.new w (.slice (some ⟨g1, 0, none⟩) n cap1) (.slice (some ⟨g2, 0, none⟩) m cap2)).alloc (.cells #[.slice none 0 0, .slice none 0 0] 28)
  have x2 := Box2.new (w.alloc (.cells #[.slice (some ⟨g1, 0, none⟩) n cap1, .slice (some ⟨g2, 0, none⟩) m cap2] 28)) (.slice none 0 0) (.slice none 0 0)
  simp only [World.size_alloc] at x2
  have y1 := (z1.alloc (.cells #[.slice (some ⟨g1, 0, none⟩) n cap1, .slice (some ⟨g2, 0, none⟩) m cap2] 28)).alloc (.cells #[.slice none 0 0, .slice none 0 0] 28)
  have y2 := (z2.alloc (.cells #[.slice (some ⟨g1, 0, none⟩) n cap1, .slice (some ⟨g2, 0, none⟩) m cap2] 28)).alloc (.cells #[.slice none 0 0, .slice none 0 0] 28)
  have hB0 : K2 g1 g2 w ((w.alloc (.cells #[.slice (some ⟨g1, 0, none⟩) n cap1, .slice (some ⟨g2, 0, none⟩) m cap2] 28)).alloc (.cells #[.slice none 0 0, .slice none 0 0] 28)) := ((K2.refl g1 g2 w).alloc _).alloc _
  have X1 := Lib.hid x1; have X2 := Lib.hid x2; have Y1 := Lib.hid y1; have Y2 := Lib.hid y2; have HB0 := Lib.hid hB0
  clear x1 x2 y1 y2 hB0 z1 z2
  by_cases h1 : n = 1
  · have HNM : Hid (n - 1 - 1 = m) := by unfold Hid; omega
    have HG : Hid (cutG gl n i r = gl) := by unfold Hid cutG; rw [if_pos h1]
    have HGL : Hid (gl.length = m) := HM
    have p1 : ((n : Int) - 1 == 0) = true := by simp; omega
    have XA := X1; have XB := X2; have YA := Y1; have YG := Y2; have HBX := HB0
    clear h1 X1 X2 Y1 Y2 HB0
    go_enter Tryz.func54, Tryz.ntmps54
    go_wp2_with fail
    refine (del_cls' g1 n cap1 base i _ _ cl _ YA.out hi rfl rfl).mono ?_
    rintro e W3 ⟨rfl, o3, hg3⟩
    have t1 := XA.out.kept hg3 (by simp; omega)
    have t2 := XB.out.kept hg3 (by simp; omega)
    have t3 := YG.out.kept hg3 (.inr (by simp [Value.ownBlock]; omega))
    have t4 := HBX.out.grown1 hg3
    have t5 := t1.s0 (.slice (some ⟨g1, 0, none⟩) (n - 1) cap1)
    have t6 := t2.other ⟨w.heap.size, 0, none⟩ (by simp) (.slice (some ⟨g1, 0, none⟩) (n - 1) cap1)
    have c0 := t1.c0; have c1 := t1.c1; have c2 := t1.z0 0; have c3 := t1.z0 1; have c4 := t2.c0; have c5 := t2.c1; have c6 := t2.z0 0; have c7 := t2.z0 1
    have hl3 : w.heap.size + 1 < W3.heap.size := t2.lt
    have u1 := ownsRow_setCell_other o3 (a := ⟨w.heap.size, 0, none⟩) (by simp [Value.ownBlock]; omega) (.slice (some ⟨g1, 0, none⟩) (n - 1) cap1)
    have u2 := ownsRow_setCell_other t3 (a := ⟨w.heap.size, 0, none⟩) (by simp [Value.ownBlock]; omega) (.slice (some ⟨g1, 0, none⟩) (n - 1) cap1)
    have u3 := t4.setCell (p := ⟨w.heap.size, 0, none⟩) (.inr (.inr (Nat.le_refl _))) (.slice (some ⟨g1, 0, none⟩) (n - 1) cap1)
    have U1 := Lib.hid u1; have U2 := Lib.hid u2; have U3 := Lib.hid u3; have T6 := Lib.hid t6
    clear t1 t2 t3 t4 t5 t6 u1 u2 u3 o3 hg3 XA XB YA YG HBX
    go_wp2
    have v1 := (T6.out.s0 (.slice (some ⟨g1, 0, none⟩) (n - 1) cap1)).s1 (.slice (some ⟨g2, 0, none⟩) m cap2)
    have e0 := v1.c0; have e1 := v1.c1
    refine bodyPost_ret (v := .agg #[.slice (some ⟨g1, 0, none⟩) (n - 1) cap1, .slice (some ⟨g2, 0, none⟩) m cap2]) (by simp [results, Tryz.results54, go_sem, e0, e1]) rfl ?_
    refine ⟨_, _, rfl, rfl, by rw [HNM.out], ⟨?_, ?_⟩, (U3.out.setCell (p := ⟨w.heap.size + 1, 0, none⟩) (.inr (.inr (Nat.le_succ _))) _).setCell (p := ⟨w.heap.size + 1, 1, none⟩) (.inr (.inr (Nat.le_succ _))) _⟩
    · rw [HLE.out]; exact ownsRow_setCell_other (ownsRow_setCell_other U1.out (by simp [Value.ownBlock]; omega) _) (by simp [Value.ownBlock]; omega) _
    · rw [HG.out, HGL.out]; exact ownsRow_setCell_other (ownsRow_setCell_other U2.out (by simp [Value.ownBlock]; omega) _) (by simp [Value.ownBlock]; omega) _
  · have p1 : ((n : Int) - 1 == 0) = false := by simp; omega
    have HNM : Hid (n - 1 - 1 = m - 1) := by unfold Hid; omega
    by_cases h0 : i = 0
    · have HG : Hid (cutG gl n i r = gl.eraseIdx 0) := by unfold Hid cutG; rw [if_neg h1, if_pos h0]
      have HGL : Hid ((gl.eraseIdx 0).length = m - 1) := by unfold Hid; rw [List.length_eraseIdx_of_lt (by rw [HM.out]; omega), HM.out]
      have p2 : ((i : Int) == 0) = true := by simp; omega
      have hj : Hid (0 < m) := by unfold Hid; omega
      clear h1 h0
      go_enter Tryz.func54, Tryz.ntmps54
      go_wp2_with fail
      refine (del_int' g2 m cap2 base 0 _ _ gl _ Y2.out hj.out rfl rfl).mono ?_
      rintro e W2 ⟨rfl, o2, hg2⟩
      have t1 := X1.out.kept hg2 (by simp; omega)
      have t2 := X2.out.kept hg2 (by simp; omega)
      have t3 := Y1.out.kept hg2 (.inr (by simp [Value.ownBlock]; omega))
      have t4 := HB0.out.grown2 hg2
      have c0 := t1.c0; have c1 := t1.c1; have c2 := t1.z0 0; have c3 := t1.z0 1
      have hl2 : w.heap.size + 1 < W2.heap.size := t2.lt
      have XA := Lib.hid (t1.s1 (.slice (some ⟨g2, 0, none⟩) (m - 1) cap2))
      have XB := Lib.hid (t2.other ⟨w.heap.size, 1, none⟩ (by simp) (.slice (some ⟨g2, 0, none⟩) (m - 1) cap2))
      have YA := Lib.hid (ownsRow_setCell_other t3 (a := ⟨w.heap.size, 1, none⟩) (by simp [Value.ownBlock]; omega) (.slice (some ⟨g2, 0, none⟩) (m - 1) cap2))
      have YG := Lib.hid (ownsRow_setCell_other o2 (a := ⟨w.heap.size, 1, none⟩) (by simp [Value.ownBlock]; omega) (.slice (some ⟨g2, 0, none⟩) (m - 1) cap2))
      have HBX := Lib.hid (t4.setCell (p := ⟨w.heap.size, 1, none⟩) (.inr (.inr (Nat.le_refl _))) (.slice (some ⟨g2, 0, none⟩) (m - 1) cap2))
      clear t1 t2 t3 t4 o2 hg2 X1 X2 Y1 Y2 HB0
      go_wp2_with fail
      refine (del_cls' g1 n cap1 base i _ _ cl _ YA.out hi rfl rfl).mono ?_
      rintro e W3 ⟨rfl, o3, hg3⟩
      have t1 := XA.out.kept hg3 (by simp; omega)
      have t2 := XB.out.kept hg3 (by simp; omega)
      have t3 := YG.out.kept hg3 (.inr (by simp [Value.ownBlock]; omega))
      have t4 := HBX.out.grown1 hg3
      have t5 := t1.s0 (.slice (some ⟨g1, 0, none⟩) (n - 1) cap1)
      have t6 := t2.other ⟨w.heap.size, 0, none⟩ (by simp) (.slice (some ⟨g1, 0, none⟩) (n - 1) cap1)
      have c0 := t1.c0; have c1 := t1.c1; have c2 := t1.z0 0; have c3 := t1.z0 1; have c4 := t2.c0; have c5 := t2.c1; have c6 := t2.z0 0; have c7 := t2.z0 1
      have hl3 : w.heap.size + 1 < W3.heap.size := t2.lt
      have u1 := ownsRow_setCell_other o3 (a := ⟨w.heap.size, 0, none⟩) (by simp [Value.ownBlock]; omega) (.slice (some ⟨g1, 0, none⟩) (n - 1) cap1)
      have u2 := ownsRow_setCell_other t3 (a := ⟨w.heap.size, 0, none⟩) (by simp [Value.ownBlock]; omega) (.slice (some ⟨g1, 0, none⟩) (n - 1) cap1)
      have u3 := t4.setCell (p := ⟨w.heap.size, 0, none⟩) (.inr (.inr (Nat.le_refl _))) (.slice (some ⟨g1, 0, none⟩) (n - 1) cap1)
      have U1 := Lib.hid u1; have U2 := Lib.hid u2; have U3 := Lib.hid u3; have T6 := Lib.hid t6
      clear t1 t2 t3 t4 t5 t6 u1 u2 u3 o3 hg3 XA XB YA YG HBX
      go_wp2
      have v1 := (T6.out.s0 (.slice (some ⟨g1, 0, none⟩) (n - 1) cap1)).s1 (.slice (some ⟨g2, 0, none⟩) (m - 1) cap2)
      have e0 := v1.c0; have e1 := v1.c1
      refine bodyPost_ret (v := .agg #[.slice (some ⟨g1, 0, none⟩) (n - 1) cap1, .slice (some ⟨g2, 0, none⟩) (m - 1) cap2]) (by simp [results, Tryz.results54, go_sem, e0, e1]) rfl ?_
      refine ⟨_, _, rfl, rfl, by rw [HNM.out], ⟨?_, ?_⟩, (U3.out.setCell (p := ⟨w.heap.size + 1, 0, none⟩) (.inr (.inr (Nat.le_succ _))) _).setCell (p := ⟨w.heap.size + 1, 1, none⟩) (.inr (.inr (Nat.le_succ _))) _⟩
      · rw [HLE.out]; exact ownsRow_setCell_other (ownsRow_setCell_other U1.out (by simp [Value.ownBlock]; omega) _) (by simp [Value.ownBlock]; omega) _
      · rw [HG.out, HGL.out]; exact ownsRow_setCell_other (ownsRow_setCell_other U2.out (by simp [Value.ownBlock]; omega) _) (by simp [Value.ownBlock]; omega) _
    · have p2 : ((i : Int) == 0) = false := by simp; omega
      by_cases hl : i = n - 1
      · have HG : Hid (cutG gl n i r = gl.eraseIdx (n - 2)) := by unfold Hid cutG; rw [if_neg h1, if_neg h0, if_pos hl]
        have HGL : Hid ((gl.eraseIdx (n - 2)).length = m - 1) := by unfold Hid; rw [List.length_eraseIdx_of_lt (by rw [HM.out]; omega), HM.out]
        have p3 : ((i : Int) == (n : Int) - 1) = true := by simp; omega
        have hj : Hid (n - 2 < m) := by unfold Hid; omega
        have ha : Hid ((n : Int) - 1 - 1 = ((n - 2 : Nat) : Int)) := by unfold Hid; omega
        have hb : Hid ((n : Int) - 1 = ((n - 2 : Nat) : Int) + 1) := by unfold Hid; omega
        clear h1 h0 hl
        go_enter Tryz.func54, Tryz.ntmps54
        go_wp2_with fail
        refine (del_int' g2 m cap2 base (n - 2) _ _ gl _ Y2.out hj.out ha.out hb.out).mono ?_
        rintro e W2 ⟨rfl, o2, hg2⟩
        have t1 := X1.out.kept hg2 (by simp; omega)
        have t2 := X2.out.kept hg2 (by simp; omega)
        have t3 := Y1.out.kept hg2 (.inr (by simp [Value.ownBlock]; omega))
        have t4 := HB0.out.grown2 hg2
        have c0 := t1.c0; have c1 := t1.c1; have c2 := t1.z0 0; have c3 := t1.z0 1
        have hl2 : w.heap.size + 1 < W2.heap.size := t2.lt
        have XA := Lib.hid (t1.s1 (.slice (some ⟨g2, 0, none⟩) (m - 1) cap2))
        have XB := Lib.hid (t2.other ⟨w.heap.size, 1, none⟩ (by simp) (.slice (some ⟨g2, 0, none⟩) (m - 1) cap2))
        have YA := Lib.hid (ownsRow_setCell_other t3 (a := ⟨w.heap.size, 1, none⟩) (by simp [Value.ownBlock]; omega) (.slice (some ⟨g2, 0, none⟩) (m - 1) cap2))
        have YG := Lib.hid (ownsRow_setCell_other o2 (a := ⟨w.heap.size, 1, none⟩) (by simp [Value.ownBlock]; omega) (.slice (some ⟨g2, 0, none⟩) (m - 1) cap2))
        have HBX := Lib.hid (t4.setCell (p := ⟨w.heap.size, 1, none⟩) (.inr (.inr (Nat.le_refl _))) (.slice (some ⟨g2, 0, none⟩) (m - 1) cap2))
        clear t1 t2 t3 t4 o2 hg2 X1 X2 Y1 Y2 HB0
        go_wp2_with fail
        refine (del_cls' g1 n cap1 base i _ _ cl _ YA.out hi rfl rfl).mono ?_
        rintro e W3 ⟨rfl, o3, hg3⟩
        have t1 := XA.out.kept hg3 (by simp; omega)
        have t2 := XB.out.kept hg3 (by simp; omega)
        have t3 := YG.out.kept hg3 (.inr (by simp [Value.ownBlock]; omega))
        have t4 := HBX.out.grown1 hg3
        have t5 := t1.s0 (.slice (some ⟨g1, 0, none⟩) (n - 1) cap1)
        have t6 := t2.other ⟨w.heap.size, 0, none⟩ (by simp) (.slice (some ⟨g1, 0, none⟩) (n - 1) cap1)
        have c0 := t1.c0; have c1 := t1.c1; have c2 := t1.z0 0; have c3 := t1.z0 1; have c4 := t2.c0; have c5 := t2.c1; have c6 := t2.z0 0; have c7 := t2.z0 1
        have hl3 : w.heap.size + 1 < W3.heap.size := t2.lt
        have u1 := ownsRow_setCell_other o3 (a := ⟨w.heap.size, 0, none⟩) (by simp [Value.ownBlock]; omega) (.slice (some ⟨g1, 0, none⟩) (n - 1) cap1)
        have u2 := ownsRow_setCell_other t3 (a := ⟨w.heap.size, 0, none⟩) (by simp [Value.ownBlock]; omega) (.slice (some ⟨g1, 0, none⟩) (n - 1) cap1)
        have u3 := t4.setCell (p := ⟨w.heap.size, 0, none⟩) (.inr (.inr (Nat.le_refl _))) (.slice (some ⟨g1, 0, none⟩) (n - 1) cap1)
        have U1 := Lib.hid u1; have U2 := Lib.hid u2; have U3 := Lib.hid u3; have T6 := Lib.hid t6
        clear t1 t2 t3 t4 t5 t6 u1 u2 u3 o3 hg3 XA XB YA YG HBX
        go_wp2
        have v1 := (T6.out.s0 (.slice (some ⟨g1, 0, none⟩) (n - 1) cap1)).s1 (.slice (some ⟨g2, 0, none⟩) (m - 1) cap2)
        have e0 := v1.c0; have e1 := v1.c1
        refine bodyPost_ret (v := .agg #[.slice (some ⟨g1, 0, none⟩) (n - 1) cap1, .slice (some ⟨g2, 0, none⟩) (m - 1) cap2]) (by simp [results, Tryz.results54, go_sem, e0, e1]) rfl ?_
        refine ⟨_, _, rfl, rfl, by rw [HNM.out], ⟨?_, ?_⟩, (U3.out.setCell (p := ⟨w.heap.size + 1, 0, none⟩) (.inr (.inr (Nat.le_succ _))) _).setCell (p := ⟨w.heap.size + 1, 1, none⟩) (.inr (.inr (Nat.le_succ _))) _⟩
        · rw [HLE.out]; exact ownsRow_setCell_other (ownsRow_setCell_other U1.out (by simp [Value.ownBlock]; omega) _) (by simp [Value.ownBlock]; omega) _
        · rw [HG.out, HGL.out]; exact ownsRow_setCell_other (ownsRow_setCell_other U2.out (by simp [Value.ownBlock]; omega) _) (by simp [Value.ownBlock]; omega) _
      · have HG : Hid (cutG gl n i r = (gl.set (i - 1) (merge (gl.getD (i - 1) 0) (gl.getD i 0) r)).eraseIdx i) := by unfold Hid cutG; rw [if_neg h1, if_neg h0, if_neg hl]
        have p3 : ((i : Int) == (n : Int) - 1) = false := by simp; omega
        obtain ⟨x, hx⟩ : ∃ x, gl.getD (i - 1) 0 = x := ⟨_, rfl⟩
        obtain ⟨y, hy⟩ : ∃ y, gl.getD i 0 = y := ⟨_, rfl⟩
        rw [hx, hy] at HG
        have hi1 : i - 1 < m := by omega
        have hi2 : i < m := by omega
        have k1 : ((w.alloc (.cells #[.slice (some ⟨g1, 0, none⟩) n cap1, .slice (some ⟨g2, 0, none⟩) m cap2] 28)).alloc (.cells #[.slice none 0 0, .slice none 0 0] 28)).cell? ⟨g2, i - 1, none⟩ = some (.int .i64 x) := by
          rw [Y2.out.cellAt _ (by omega)]
          have hl := HM.out
          simp [ints, ← hx, List.getD_eq_getElem?_getD, List.getElem?_eq_getElem (show i - 1 < gl.length by omega)]
        have k2 : ((w.alloc (.cells #[.slice (some ⟨g1, 0, none⟩) n cap1, .slice (some ⟨g2, 0, none⟩) m cap2] 28)).alloc (.cells #[.slice none 0 0, .slice none 0 0] 28)).cell? ⟨g2, i, none⟩ = some (.int .i64 y) := by
          rw [Y2.out.cellAt _ (by omega)]
          have hl := HM.out
          simp [ints, ← hy, List.getD_eq_getElem?_getD, List.getElem?_eq_getElem (show i < gl.length by omega)]
        have k3 := owns_frozen Y2.out (i - 1)
        have a1 : (0 : Int) ≤ (i : Int) - 1 := by omega
        have a2 : (i : Int) - 1 < (m : Int) := by omega
        have a3 : ((i : Int) - 1).toNat = i - 1 := by omega
        have a4 : (i : Int) < (m : Int) := by omega
        have a5 : (1 : Int) ≤ (i : Int) := by omega
        have wr : IntKind.i64.wrap ((i : Int) - 1) = (i : Int) - 1 := IntWalk.i64_in _ ⟨by omega, by omega⟩
        have hmx : Tryz.prog.follows .mixedOrders = true := by kernel_rfl
        clear h1 h0 hl
        go_enter Tryz.func54, Tryz.ntmps54
        go_wp2
        obtain ⟨W0, hW0⟩ : ∃ W0, (w.alloc (.cells #[.slice (some ⟨g1, 0, none⟩) n cap1, .slice (some ⟨g2, 0, none⟩) m cap2] 28)).alloc (.cells #[.slice none 0 0, .slice none 0 0] 28) = W0 := ⟨_, rfl⟩
        rw [hW0] at X1 X2 Y1 Y2 HB0 k1 k2 k3 ⊢
        clear hW0
        have c0 := X1.out.c0
        have c1 := X1.out.c1
        refine wp_region_still_tail 18 hmx (by kernel_rfl) ?_
        simp only [List.take_succ_cons, List.take_zero, List.drop_succ_cons, List.drop_zero]
        repeat still_step
        still_call ((merge_any x y r _).mono fun e w' h => ⟨h.1, h.2.symm⟩)
        repeat still_step
        refine wpStill_nil ?_
        change wpList _ _ _ _ _ W0.drew
        obtain ⟨W9, hW9⟩ : ∃ W9, W0.drew = W9 := ⟨_, rfl⟩
        have X1' : Hid (Box2 W9 w.heap.size (.slice (some ⟨g1, 0, none⟩) n cap1) (.slice (some ⟨g2, 0, none⟩) m cap2)) := by rw [← hW9]; exact X1
        have X2' : Hid (Box2 W9 (w.heap.size + 1) (.slice none 0 0) (.slice none 0 0)) := by rw [← hW9]; exact X2
        have Y1' : Hid (W9.ownsRow base 47 2 (.slice (some ⟨g1, 0, none⟩) n cap1) n (cellsP cl)) := by rw [← hW9]; exact Y1
        have Y2' : Hid (W9.ownsRow base 3 1 (.slice (some ⟨g2, 0, none⟩) m cap2) m (ints gl)) := by rw [← hW9]; exact Y2
        have HB0' : Hid (K2 g1 g2 w W9) := by rw [← hW9]; exact HB0.out.drew
        have k1' : W9.cell? ⟨g2, i - 1, none⟩ = some (.int .i64 x) := by rw [← hW9]; exact k1
        have k3' : W9.frozen? ⟨g2, i - 1, none⟩ = false := by rw [← hW9]; exact k3
        rw [hW9]
        clear X1 X2 Y1 Y2 HB0 k1 k2 k3 hW9 c0 c1
        have c1 := X1'.out.c1
        have HGS : Hid (ints (gl.set (i - 1) (merge x y r)) = (ints gl).set (i - 1) (.int .i64 (merge x y r))) := by unfold Hid ints; rw [List.map_set]
        obtain ⟨z, hz⟩ : ∃ z, merge x y r = z := ⟨_, rfl⟩
        rw [hz] at HG HGS ⊢
        have o5 := owns_set Y2'.out (i - 1) (.int .i64 z)
        rw [← HGS.out] at o5
        have X1 := Lib.hid (X1'.out.other ⟨g2, i - 1, none⟩ (by simp; omega) (.int .i64 z))
        have X2 := Lib.hid (X2'.out.other ⟨g2, i - 1, none⟩ (by simp; omega) (.int .i64 z))
        have Y1 := Lib.hid (ownsRow_setCell_other Y1'.out (a := ⟨g2, i - 1, none⟩) (by simp [Value.ownBlock]; omega) (.int .i64 z))
        have Y2 := Lib.hid o5
        have HB0 := Lib.hid (HB0'.out.setCell (p := ⟨g2, i - 1, none⟩) (.inr (.inl rfl)) (.int .i64 z))
        have HMS : Hid ((gl.set (i - 1) z).length = m) := by unfold Hid; rw [List.length_set]; exact HM.out
        have HGL : Hid (((gl.set (i - 1) z).eraseIdx i).length = m - 1) := by unfold Hid; rw [List.length_eraseIdx_of_lt (by rw [HMS.out]; omega), HMS.out]
        have d1 := X1.out.c1
        have hj : Hid (i < m) := Lib.hid hi2
        clear X1' X2' Y1' Y2' HB0' o5
        go_wp2_with fail
        refine (del_int' g2 m cap2 base i _ _ (gl.set (i - 1) z) _ Y2.out hj.out rfl rfl).mono ?_
        rintro e W2 ⟨rfl, o2, hg2⟩
        have t1 := X1.out.kept hg2 (by simp; omega)
        have t2 := X2.out.kept hg2 (by simp; omega)
        have t3 := Y1.out.kept hg2 (.inr (by simp [Value.ownBlock]; omega))
        have t4 := HB0.out.grown2 hg2
        have c0 := t1.c0; have c1 := t1.c1; have c2 := t1.z0 0; have c3 := t1.z0 1
        have hl2 : w.heap.size + 1 < W2.heap.size := t2.lt
        have XA := Lib.hid (t1.s1 (.slice (some ⟨g2, 0, none⟩) (m - 1) cap2))
        have XB := Lib.hid (t2.other ⟨w.heap.size, 1, none⟩ (by simp) (.slice (some ⟨g2, 0, none⟩) (m - 1) cap2))
        have YA := Lib.hid (ownsRow_setCell_other t3 (a := ⟨w.heap.size, 1, none⟩) (by simp [Value.ownBlock]; omega) (.slice (some ⟨g2, 0, none⟩) (m - 1) cap2))
        have YG := Lib.hid (ownsRow_setCell_other o2 (a := ⟨w.heap.size, 1, none⟩) (by simp [Value.ownBlock]; omega) (.slice (some ⟨g2, 0, none⟩) (m - 1) cap2))
        have HBX := Lib.hid (t4.setCell (p := ⟨w.heap.size, 1, none⟩) (.inr (.inr (Nat.le_refl _))) (.slice (some ⟨g2, 0, none⟩) (m - 1) cap2))
        clear t1 t2 t3 t4 o2 hg2 X1 X2 Y1 Y2 HB0
        go_wp2_with fail
        refine (del_cls' g1 n cap1 base i _ _ cl _ YA.out hi rfl rfl).mono ?_
        rintro e W3 ⟨rfl, o3, hg3⟩
        have t1 := XA.out.kept hg3 (by simp; omega)
        have t2 := XB.out.kept hg3 (by simp; omega)
        have t3 := YG.out.kept hg3 (.inr (by simp [Value.ownBlock]; omega))
        have t4 := HBX.out.grown1 hg3
        have t5 := t1.s0 (.slice (some ⟨g1, 0, none⟩) (n - 1) cap1)
        have t6 := t2.other ⟨w.heap.size, 0, none⟩ (by simp) (.slice (some ⟨g1, 0, none⟩) (n - 1) cap1)
        have c0 := t1.c0; have c1 := t1.c1; have c2 := t1.z0 0; have c3 := t1.z0 1; have c4 := t2.c0; have c5 := t2.c1; have c6 := t2.z0 0; have c7 := t2.z0 1
        have hl3 : w.heap.size + 1 < W3.heap.size := t2.lt
        have u1 := ownsRow_setCell_other o3 (a := ⟨w.heap.size, 0, none⟩) (by simp [Value.ownBlock]; omega) (.slice (some ⟨g1, 0, none⟩) (n - 1) cap1)
        have u2 := ownsRow_setCell_other t3 (a := ⟨w.heap.size, 0, none⟩) (by simp [Value.ownBlock]; omega) (.slice (some ⟨g1, 0, none⟩) (n - 1) cap1)
        have u3 := t4.setCell (p := ⟨w.heap.size, 0, none⟩) (.inr (.inr (Nat.le_refl _))) (.slice (some ⟨g1, 0, none⟩) (n - 1) cap1)
        have U1 := Lib.hid u1; have U2 := Lib.hid u2; have U3 := Lib.hid u3; have T6 := Lib.hid t6
        clear t1 t2 t3 t4 t5 t6 u1 u2 u3 o3 hg3 XA XB YA YG HBX
        go_wp2
        have v1 := (T6.out.s0 (.slice (some ⟨g1, 0, none⟩) (n - 1) cap1)).s1 (.slice (some ⟨g2, 0, none⟩) (m - 1) cap2)
        have e0 := v1.c0; have e1 := v1.c1
        refine bodyPost_ret (v := .agg #[.slice (some ⟨g1, 0, none⟩) (n - 1) cap1, .slice (some ⟨g2, 0, none⟩) (m - 1) cap2]) (by simp [results, Tryz.results54, go_sem, e0, e1]) rfl ?_
        refine ⟨_, _, rfl, rfl, by rw [HNM.out], ⟨?_, ?_⟩, (U3.out.setCell (p := ⟨w.heap.size + 1, 0, none⟩) (.inr (.inr (Nat.le_succ _))) _).setCell (p := ⟨w.heap.size + 1, 1, none⟩) (.inr (.inr (Nat.le_succ _))) _⟩
        · rw [HLE.out]; exact ownsRow_setCell_other (ownsRow_setCell_other U1.out (by simp [Value.ownBlock]; omega) _) (by simp [Value.ownBlock]; omega) _
        · rw [HG.out, HGL.out]; exact ownsRow_setCell_other (ownsRow_setCell_other U2.out (by simp [Value.ownBlock]; omega) _) (by simp [Value.ownBlock]; omega) _

end Go.Proofs.YtkkoooagamadjaaGreatDoor
