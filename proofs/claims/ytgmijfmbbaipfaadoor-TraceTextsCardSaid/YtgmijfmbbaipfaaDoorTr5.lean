/- warderlaw12.Great, warderlaw37.great. -/
import Derived.Test.YtgmijfmbbaipfaaDoorTr4
namespace Go.Proofs.YtgmijfmbbaipfaaDoor
open Go.RowKit

theorem RowE.get {α : Type} {E : ElE α} {k : Nat} {w : World} {v : Value} {T : List α} (_h : RowE E k w v T) {i : Nat} (hi : i < T.length) : ∃ a, T[i]? = some a := ⟨_, List.getElem?_eq_getElem hi⟩
theorem lt_int {k n : Nat} (h : k < n) : (k : Int) < (n : Int) := by omega
theorem nlt_int {k n : Nat} (h : ¬ k < n) : ¬ (k : Int) < (n : Int) := by omega
/-- what is told of great -/
def GrPost (P : Prop) (w : World) : Ending → World → Prop := fun e w' => ∃ b, e = .returned (.bool b) ∧ Hid (b = false → P) ∧ Below w.heap.size w w'
/-- a model is not great -/
def Not12 (M : Mdl) : Prop := M.guards.length ≤ 14 ∧ M.miles.length ≤ 10 ∧ M.stages.length ≤ 10 ∧ M.events.length ≤ 10 ∧ M.attrs.length ≤ 10 ∧ M.users.length ≤ 10 ∧ M.roles.length ≤ 10 ∧ M.sods.length ≤ 10 ∧ M.order.length ≤ 40 ∧ M.inits.length ≤ 10

set_option maxRecDepth 100000 in
set_option maxHeartbeats 1200000 in
theorem great12_any {w : World} {m0 m1 m2 m3 m4 m5 m6 m7 m8 m9 : Value} {M : Mdl} (hm : MdR w m0 m1 m2 m3 m4 m5 m6 m7 m8 m9 M) :
    Calls Tryd.prog 9 #[.agg #[m0, m1, m2, m3, m4, m5, m6, m7, m8, m9]] w (GrPost (Not12 M) w) := by
  obtain ⟨a0, k0, e0⟩ := hm.attrs.len
  obtain ⟨a1, k1, e1⟩ := hm.inits.len
  obtain ⟨a2, k2, e2⟩ := hm.users.len
  obtain ⟨a3, k3, e3⟩ := hm.roles.len
  obtain ⟨a4, k4, e4⟩ := hm.stages.len
  obtain ⟨a5, k5, e5⟩ := hm.events.len
  obtain ⟨a6, k6, e6⟩ := hm.guards.len
  obtain ⟨a7, k7, e7⟩ := hm.miles.len
  obtain ⟨a8, k8, e8⟩ := hm.sods.len
  obtain ⟨a9, k9, e9⟩ := hm.order.len
  obtain ⟨n0, hn0⟩ : ∃ n, M.attrs.length = n := ⟨_, rfl⟩
  obtain ⟨n1, hn1⟩ : ∃ n, M.inits.length = n := ⟨_, rfl⟩
  obtain ⟨n2, hn2⟩ : ∃ n, M.users.length = n := ⟨_, rfl⟩
  obtain ⟨n3, hn3⟩ : ∃ n, M.roles.length = n := ⟨_, rfl⟩
  obtain ⟨n4, hn4⟩ : ∃ n, M.stages.length = n := ⟨_, rfl⟩
  obtain ⟨n5, hn5⟩ : ∃ n, M.events.length = n := ⟨_, rfl⟩
  obtain ⟨n6, hn6⟩ : ∃ n, M.guards.length = n := ⟨_, rfl⟩
  obtain ⟨n7, hn7⟩ : ∃ n, M.miles.length = n := ⟨_, rfl⟩
  obtain ⟨n8, hn8⟩ : ∃ n, M.sods.length = n := ⟨_, rfl⟩
  obtain ⟨n9, hn9⟩ : ∃ n, M.order.length = n := ⟨_, rfl⟩
  rw [hn0] at e0
  subst e0
  rw [hn1] at e1
  subst e1
  rw [hn2] at e2
  subst e2
  rw [hn3] at e3
  subst e3
  rw [hn4] at e4
  subst e4
  rw [hn5] at e5
  subst e5
  rw [hn6] at e6
  subst e6
  rw [hn7] at e7
  subst e7
  rw [hn8] at e8
  subst e8
  rw [hn9] at e9
  subst e9
  obtain ⟨W1, hW1⟩ : ∃ W1, w.alloc (.cells #[.slice a0 n0 k0, .slice a1 n1 k1, .slice a2 n2 k2, .slice a3 n3 k3, .slice a4 n4 k4, .slice a5 n5 k5, .slice a6 n6 k6, .slice a7 n7 k7, .slice a8 n8 k8, .slice a9 n9 k9] 32) = W1 := ⟨_, rfl⟩
  have hb1 : Below w.heap.size w W1 := by rw [← hW1]; exact (Below.refl _ w).alloc (Nat.le_refl _) _
  have xm : Blk W1 w.heap.size #[.slice a0 n0 k0, .slice a1 n1 k1, .slice a2 n2 k2, .slice a3 n3 k3, .slice a4 n4 k4, .slice a5 n5 k5, .slice a6 n6 k6, .slice a7 n7 k7, .slice a8 n8 k8, .slice a9 n9 k9] 32 := by rw [← hW1]; exact Blk.new _ _ _
  have HM := Lib.hid (hm.below hb1); have HB1 := Lib.hid hb1; have HXM := Lib.hid xm
  have HN : Hid (M.attrs.length = n0 ∧ M.inits.length = n1 ∧ M.users.length = n2 ∧ M.roles.length = n3 ∧ M.stages.length = n4 ∧ M.events.length = n5 ∧ M.guards.length = n6 ∧ M.miles.length = n7 ∧ M.sods.length = n8 ∧ M.order.length = n9) := ⟨hn0, hn1, hn2, hn3, hn4, hn5, hn6, hn7, hn8, hn9⟩
  have c0 := xm.cell (i := 0) rfl
  have c1 := xm.cell (i := 1) rfl
  have c2 := xm.cell (i := 2) rfl
  have c3 := xm.cell (i := 3) rfl
  have c4 := xm.cell (i := 4) rfl
  have c5 := xm.cell (i := 5) rfl
  have c6 := xm.cell (i := 6) rfl
  have c7 := xm.cell (i := 7) rfl
  have c8 := xm.cell (i := 8) rfl
  have c9 := xm.cell (i := 9) rfl
  clear hm hb1 xm hn0 hn1 hn2 hn3 hn4 hn5 hn6 hn7 hn8 hn9
  by_cases p0 : 14 < n6
  · have q0 : (14 : Int) < (n6 : Int) := lt_int p0
    clear p0
    go_enter Tryd.func9, Tryd.ntmps9
    go_wp2_with fail
    go_ret
    exact ⟨true, rfl, Lib.hid (fun h => by cases h), HB1.out⟩
  have q0 : ¬ (14 : Int) < (n6 : Int) := nlt_int p0
  by_cases p1 : 10 < n7
  · have q1 : (10 : Int) < (n7 : Int) := lt_int p1
    clear p1
    clear p0
    go_enter Tryd.func9, Tryd.ntmps9
    go_wp2_with fail
    go_ret
    exact ⟨true, rfl, Lib.hid (fun h => by cases h), HB1.out⟩
  have q1 : ¬ (10 : Int) < (n7 : Int) := nlt_int p1
  by_cases p2 : 10 < n4
  · have q2 : (10 : Int) < (n4 : Int) := lt_int p2
    clear p2
    clear p0 p1
    go_enter Tryd.func9, Tryd.ntmps9
    go_wp2_with fail
    go_ret
    exact ⟨true, rfl, Lib.hid (fun h => by cases h), HB1.out⟩
  have q2 : ¬ (10 : Int) < (n4 : Int) := nlt_int p2
  by_cases p3 : 10 < n5
  · have q3 : (10 : Int) < (n5 : Int) := lt_int p3
    clear p3
    clear p0 p1 p2
    go_enter Tryd.func9, Tryd.ntmps9
    go_wp2_with fail
    go_ret
    exact ⟨true, rfl, Lib.hid (fun h => by cases h), HB1.out⟩
  have q3 : ¬ (10 : Int) < (n5 : Int) := nlt_int p3
  by_cases p4 : 10 < n0
  · have q4 : (10 : Int) < (n0 : Int) := lt_int p4
    clear p4
    clear p0 p1 p2 p3
    go_enter Tryd.func9, Tryd.ntmps9
    go_wp2_with fail
    go_ret
    exact ⟨true, rfl, Lib.hid (fun h => by cases h), HB1.out⟩
  have q4 : ¬ (10 : Int) < (n0 : Int) := nlt_int p4
  by_cases p5 : 10 < n2
  · have q5 : (10 : Int) < (n2 : Int) := lt_int p5
    clear p5
    clear p0 p1 p2 p3 p4
    go_enter Tryd.func9, Tryd.ntmps9
    go_wp2_with fail
    go_ret
    exact ⟨true, rfl, Lib.hid (fun h => by cases h), HB1.out⟩
  have q5 : ¬ (10 : Int) < (n2 : Int) := nlt_int p5
  by_cases p6 : 10 < n3
  · have q6 : (10 : Int) < (n3 : Int) := lt_int p6
    clear p6
    clear p0 p1 p2 p3 p4 p5
    go_enter Tryd.func9, Tryd.ntmps9
    go_wp2_with fail
    go_ret
    exact ⟨true, rfl, Lib.hid (fun h => by cases h), HB1.out⟩
  have q6 : ¬ (10 : Int) < (n3 : Int) := nlt_int p6
  by_cases p7 : 10 < n8
  · have q7 : (10 : Int) < (n8 : Int) := lt_int p7
    clear p7
    clear p0 p1 p2 p3 p4 p5 p6
    go_enter Tryd.func9, Tryd.ntmps9
    go_wp2_with fail
    go_ret
    exact ⟨true, rfl, Lib.hid (fun h => by cases h), HB1.out⟩
  have q7 : ¬ (10 : Int) < (n8 : Int) := nlt_int p7
  by_cases p8 : 40 < n9
  · have q8 : (40 : Int) < (n9 : Int) := lt_int p8
    clear p8
    clear p0 p1 p2 p3 p4 p5 p6 p7
    go_enter Tryd.func9, Tryd.ntmps9
    go_wp2_with fail
    go_ret
    exact ⟨true, rfl, Lib.hid (fun h => by cases h), HB1.out⟩
  have q8 : ¬ (40 : Int) < (n9 : Int) := nlt_int p8
  by_cases p9 : 10 < n1
  · have q9 : (10 : Int) < (n1 : Int) := lt_int p9
    clear p9
    clear p0 p1 p2 p3 p4 p5 p6 p7 p8
    go_enter Tryd.func9, Tryd.ntmps9
    go_wp2_with fail
    go_ret
    exact ⟨true, rfl, Lib.hid (fun h => by cases h), HB1.out⟩
  have q9 : ¬ (10 : Int) < (n1 : Int) := nlt_int p9
  have HNT : Hid (Not12 M) := by
      obtain ⟨z0, z1, z2, z3, z4, z5, z6, z7, z8, z9⟩ := HN.out
      unfold Hid Not12
      rw [z0, z1, z2, z3, z4, z5, z6, z7, z8, z9]
      exact ⟨Nat.le_of_not_lt p0, Nat.le_of_not_lt p1, Nat.le_of_not_lt p2, Nat.le_of_not_lt p3, Nat.le_of_not_lt p4, Nat.le_of_not_lt p5, Nat.le_of_not_lt p6, Nat.le_of_not_lt p7, Nat.le_of_not_lt p8, Nat.le_of_not_lt p9⟩
  clear p0 p1 p2 p3 p4 p5 p6 p7 p8 p9
  go_enter Tryd.func9, Tryd.ntmps9
  go_wp2_with fail
  go_loopw [3] (fun s wr => ∃ k : Nat, k ≤ n6 ∧ s = .int .i64 k ∧ wr = W1) (fun s _ => n6 - (intOf s).toNat)
  case atStart => exact ⟨0, Nat.zero_le _, rfl, rfl⟩
  case round =>
    obtain ⟨k, hk, rfl, rfl⟩ := hrel
    by_cases hlt : k < n6
    · have hkn : (k : Int) < (n6 : Int) := by omega
      obtain ⟨z0, z1, z2, z3, z4, z5, z6, z7, z8, z9⟩ := HN.out
      obtain ⟨a, ha⟩ := HM.out.guards.get (i := k) (by rw [z6]; exact hlt)
      obtain ⟨b, o, cp, cs, eq, hb, _, ⟨v, hc, hr⟩, hcell⟩ := HM.out.guards.at ha
      rw [z6] at eq
      cases eq
      subst hc
      obtain ⟨av, kv, ev⟩ := hr.len
      subst ev
      have g := hcell 2 _ rfl
      have hmx := hr.max
      obtain ⟨l, hl⟩ : ∃ l, a.ifs.length = l := ⟨_, rfl⟩
      rw [hl] at g hmx
      clear z0 z1 z2 z3 z4 z5 z6 z7 z8 z9 ha hcell hr hl
      by_cases h : 80 < l
      · have hi : (80 : Int) < (l : Int) := by omega
        clear h
        go_wp2_with fail
        go_ret
        exact ⟨true, rfl, Lib.hid (fun h => by cases h), HB1.out⟩
      · have hi : ¬ (80 : Int) < (l : Int) := by omega
        clear h
        go_wp2_with fail
        go_roundw
        case rel => exact ⟨k + 1, by omega, by go_num, trivial⟩
        case measure => simp [intOf]; omega
    · obtain rfl : k = n6 := by omega
      go_wp2_with fail
      obtain ⟨W1, rfl⟩ : ∃ W, W = wr := ⟨_, rfl⟩
      go_loopw [4] (fun s wr => ∃ k : Nat, k ≤ n7 ∧ s = .int .i64 k ∧ wr = W1) (fun s _ => n7 - (intOf s).toNat)
      case atStart => exact ⟨0, Nat.zero_le _, rfl, rfl⟩
      case round =>
        obtain ⟨k, hk, rfl, rfl⟩ := hrel
        by_cases hlt : k < n7
        · have hkn : (k : Int) < (n7 : Int) := by omega
          obtain ⟨z0, z1, z2, z3, z4, z5, z6, z7, z8, z9⟩ := HN.out
          obtain ⟨a, ha⟩ := HM.out.miles.get (i := k) (by rw [z7]; exact hlt)
          obtain ⟨b, o, cp, cs, eq, hb, _, ⟨v, hc, hr⟩, hcell⟩ := HM.out.miles.at ha
          rw [z7] at eq
          cases eq
          subst hc
          obtain ⟨av, kv, ev⟩ := hr.len
          subst ev
          have g := hcell 3 _ rfl
          have hmx := hr.max
          obtain ⟨l, hl⟩ : ∃ l, a.ifs.length = l := ⟨_, rfl⟩
          rw [hl] at g hmx
          clear z0 z1 z2 z3 z4 z5 z6 z7 z8 z9 ha hcell hr hl
          by_cases h : 80 < l
          · have hi : (80 : Int) < (l : Int) := by omega
            clear h
            go_wp2_with fail
            go_ret
            exact ⟨true, rfl, Lib.hid (fun h => by cases h), HB1.out⟩
          · have hi : ¬ (80 : Int) < (l : Int) := by omega
            clear h
            go_wp2_with fail
            go_roundw
            case rel => exact ⟨k + 1, by omega, by go_num, trivial⟩
            case measure => simp [intOf]; omega
        · obtain rfl : k = n7 := by omega
          go_wp2_with fail
          obtain ⟨W1, rfl⟩ : ∃ W, W = wr := ⟨_, rfl⟩
          go_loopw [5] (fun s wr => ∃ k : Nat, k ≤ n5 ∧ s = .int .i64 k ∧ wr = W1) (fun s _ => n5 - (intOf s).toNat)
          case atStart => exact ⟨0, Nat.zero_le _, rfl, rfl⟩
          case round =>
            obtain ⟨k, hk, rfl, rfl⟩ := hrel
            by_cases hlt : k < n5
            · have hkn : (k : Int) < (n5 : Int) := by omega
              obtain ⟨z0, z1, z2, z3, z4, z5, z6, z7, z8, z9⟩ := HN.out
              obtain ⟨a, ha⟩ := HM.out.events.get (i := k) (by rw [z5]; exact hlt)
              obtain ⟨b, o, cp, cs, eq, hb, _, ⟨v, hc, hr⟩, hcell⟩ := HM.out.events.at ha
              rw [z5] at eq
              cases eq
              subst hc
              obtain ⟨av, kv, ev⟩ := hr.len
              subst ev
              have g := hcell 3 _ rfl
              have hmx := hr.max
              obtain ⟨l, hl⟩ : ∃ l, a.sets.length = l := ⟨_, rfl⟩
              rw [hl] at g hmx
              clear z0 z1 z2 z3 z4 z5 z6 z7 z8 z9 ha hcell hr hl
              by_cases h : 10 < l
              · have hi : (10 : Int) < (l : Int) := by omega
                clear h
                go_wp2_with fail
                go_ret
                exact ⟨true, rfl, Lib.hid (fun h => by cases h), HB1.out⟩
              · have hi : ¬ (10 : Int) < (l : Int) := by omega
                clear h
                go_wp2_with fail
                go_roundw
                case rel => exact ⟨k + 1, by omega, by go_num, trivial⟩
                case measure => simp [intOf]; omega
            · obtain rfl : k = n5 := by omega
              go_wp2_with fail
              go_ret
              exact ⟨false, rfl, Lib.hid (fun _ => HNT.out), HB1.out⟩

/-- what is not great -/
theorem small_of {M : Mdl} (h0 : ∀ s ∈ M.attrs, s.size ≤ 60) (h1 : ∀ s ∈ M.users, s.size ≤ 60) (h2 : ∀ e ∈ M.events, e.name.size ≤ 60) : SmallM M := ⟨h0, h1, h2⟩
/-- all of the first so many -/
def AllTo {α : Type} (p : α → Prop) (l : List α) (k : Nat) : Prop := ∀ (j : Nat) (a : α), j < k → l[j]? = some a → p a
theorem AllTo.zero {α : Type} (p : α → Prop) (l : List α) : AllTo p l 0 := fun j a h => by omega
theorem AllTo.succ {α : Type} {p : α → Prop} {l : List α} {k : Nat} {a : α} (h : AllTo p l k) (ha : l[k]? = some a) (hp : p a) : AllTo p l (k + 1) := fun j b hj hb => by
  by_cases e : j = k
  · subst e; rw [ha] at hb; cases hb; exact hp
  · exact h j b (by omega) hb
theorem AllTo.all {α : Type} {p : α → Prop} {l : List α} (h : AllTo p l l.length) : ∀ a ∈ l, p a := fun a ha => by
  obtain ⟨j, hj⟩ := List.getElem?_of_mem ha
  exact h j a (List.getElem?_eq_some_iff.1 hj).1 hj

set_option maxRecDepth 100000 in
set_option maxHeartbeats 1200000 in
theorem great37_any {w : World} {m0 m1 m2 m3 m4 m5 m6 m7 m8 m9 lv : Value} {M : Mdl} (t : Tr) (hm : MdR w m0 m1 m2 m3 m4 m5 m6 m7 m8 m9 M) (hv : RowE moveE 3 w lv t.moves) :
    Calls Tryd.prog 4 #[.agg #[m0, m1, m2, m3, m4, m5, m6, m7, m8, m9], .agg #[lv, .int .i64 t.loop]] w (GrPost (SmallM M ∧ t.moves.length ≤ 1100 ∧ ∀ v ∈ t.moves, v.vals.length ≤ 20) w) := by
  obtain ⟨a0, k0, e0⟩ := hm.attrs.len
  obtain ⟨a2, k2, e2⟩ := hm.users.len
  obtain ⟨a5, k5, e5⟩ := hm.events.len
  obtain ⟨ad, cp, ev⟩ := hv.len
  obtain ⟨n0, hn0⟩ : ∃ n, M.attrs.length = n := ⟨_, rfl⟩
  obtain ⟨n2, hn2⟩ : ∃ n, M.users.length = n := ⟨_, rfl⟩
  obtain ⟨n5, hn5⟩ : ∃ n, M.events.length = n := ⟨_, rfl⟩
  obtain ⟨n, hn⟩ : ∃ n, t.moves.length = n := ⟨_, rfl⟩
  obtain ⟨lp, hlp⟩ : ∃ x, t.loop = x := ⟨_, rfl⟩
  have hx0 := hm.attrs.max; have hx2 := hm.users.max; have hx5 := hm.events.max; have hxm := hv.max
  rw [hn0] at e0 hx0; rw [hn2] at e2 hx2; rw [hn5] at e5 hx5; rw [hn] at ev hxm
  subst e0; subst e2; subst e5; subst ev
  obtain ⟨W1, hW1⟩ : ∃ W1, w.alloc (.cells #[.slice a0 n0 k0, m1, .slice a2 n2 k2, m3, m4, .slice a5 n5 k5, m6, m7, m8, m9] 32) = W1 := ⟨_, rfl⟩
  have hs1 : W1.heap.size = w.heap.size + 1 := by rw [← hW1]; simp
  obtain ⟨W2, hW2⟩ : ∃ W2, W1.alloc (.cells #[.slice ad n cp, .int .i64 lp] 35) = W2 := ⟨_, rfl⟩
  have hb2 : Below w.heap.size w W2 := by rw [← hW2, ← hW1]; exact ((Below.refl _ w).alloc (Nat.le_refl _) _).alloc (by simp) _
  have xm : Blk W2 w.heap.size #[.slice a0 n0 k0, m1, .slice a2 n2 k2, m3, m4, .slice a5 n5 k5, m6, m7, m8, m9] 32 := by rw [← hW2, ← hW1]; exact (Blk.new _ _ _).alloc _
  have xt : Blk W2 (w.heap.size + 1) #[.slice ad n cp, .int .i64 lp] 35 := by rw [← hW2, ← hs1]; exact Blk.new _ _ _
  have HG := Lib.hid (great12_any (hm.below hb2))
  have HM := Lib.hid hm; have HV := Lib.hid hv; have HXM := Lib.hid xm; have HXT := Lib.hid xt; have HB2 := Lib.hid hb2
  have HN0 := Lib.hid hn0; have HN2 := Lib.hid hn2; have HN5 := Lib.hid hn5; have HN := Lib.hid hn
  have c0 := xm.cell (i := 0) rfl
  have c1 := xm.cell (i := 1) rfl
  have c2 := xm.cell (i := 2) rfl
  have c3 := xm.cell (i := 3) rfl
  have c4 := xm.cell (i := 4) rfl
  have c5 := xm.cell (i := 5) rfl
  have c6 := xm.cell (i := 6) rfl
  have c7 := xm.cell (i := 7) rfl
  have c8 := xm.cell (i := 8) rfl
  have c9 := xm.cell (i := 9) rfl
  rw [hlp]
  clear hm hv xm xt hb2 hn0 hn2 hn5 hn hlp
  go_enter Tryd.func4, Tryd.ntmps4
  go_wp2_with fail
  refine HG.out.mono ?_
  rintro e w3 ⟨b, rfl, -, hb3⟩
  have HB3 := Lib.hid (HB2.out.trans (hb3.mono HB2.out.size))
  have HXM3 := Lib.hid (HXM.out.keep hb3)
  have HXT3 := Lib.hid (HXT.out.keep hb3)
  clear hb3 HG HXM HXT HB2 c0 c1 c2 c3 c4 c5 c6 c7 c8 c9
  cases b
  rotate_left
  · go_wp2_with fail
    go_ret
    exact ⟨true, rfl, Lib.hid (fun h => by cases h), HB3.out⟩
  have d0 := HXT3.out.cell (i := 0) rfl
  have c0 := HXM3.out.cell (i := 0) rfl; have c2 := HXM3.out.cell (i := 2) rfl; have c5 := HXM3.out.cell (i := 5) rfl
  have HM3 := Lib.hid (HM.out.below HB3.out)
  have HV3 := Lib.hid (HV.out.below moveE_keep HB3.out)
  by_cases h0 : 1100 < n
  · have h0i : (1100 : Int) < (n : Int) := by omega
    go_wp2_with fail
    go_ret
    exact ⟨true, rfl, Lib.hid (fun h => by cases h), HB3.out⟩
  have h0i : ¬ (1100 : Int) < (n : Int) := by omega
  go_wp2_with fail
  go_loopw [5] (fun s wr => ∃ k : Nat, k ≤ n ∧ s = .int .i64 k ∧ Hid (AllTo (fun v : Mv => v.vals.length ≤ 20) t.moves k) ∧ wr = w3) (fun s _ => n - (intOf s).toNat)
  case atStart => exact ⟨0, Nat.zero_le _, rfl, AllTo.zero _ _, rfl⟩
  case round =>
    obtain ⟨k, hk, rfl, HA0, rfl⟩ := hrel
    by_cases hlt : k < n
    · have hkn : (k : Int) < (n : Int) := by omega
      obtain ⟨a, ha⟩ := HV3.out.get (i := k) (by rw [HN.out]; exact hlt)
      obtain ⟨b, o, cq, v2, eq, hmv⟩ := moves_at HV3.out ha
      rw [HN.out] at eq
      cases eq
      obtain ⟨av, kv, ev⟩ := hmv.vals.len
      subst ev
      have hmx := hmv.vals.max
      have g := hmv.c2
      obtain ⟨l, hl⟩ : ∃ l, a.vals.length = l := ⟨_, rfl⟩
      rw [hl] at g hmx
      have HL := Lib.hid hl
      have HAK := Lib.hid ha
      clear ha hmv hl
      by_cases h : 20 < l
      · have hi : (20 : Int) < (l : Int) := by omega
        clear h
        go_wp2_with fail
        go_ret
        exact ⟨true, rfl, Lib.hid (fun h => by cases h), HB3.out⟩
      · have hi : ¬ (20 : Int) < (l : Int) := by omega
        have hle : l ≤ 20 := by omega
        have HA := Lib.hid (HA0.out.succ HAK.out (show a.vals.length ≤ 20 by rw [HL.out]; exact hle))
        clear h
        go_wp2_with fail
        go_roundw
        case rel => exact ⟨k + 1, by omega, by go_num, HA, trivial⟩
        case measure => simp [intOf]; omega
    · obtain rfl : k = n := by omega
      go_wp2_with fail
      obtain ⟨w3, rfl⟩ : ∃ W, W = wr := ⟨_, rfl⟩
      go_loopw [6] (fun s wr => ∃ k : Nat, k ≤ n0 ∧ s = .int .i64 k ∧ Hid (AllTo (fun s : ByteArray => s.size ≤ 60) M.attrs k) ∧ wr = w3) (fun s _ => n0 - (intOf s).toNat)
      case atStart => exact ⟨0, Nat.zero_le _, rfl, AllTo.zero _ _, rfl⟩
      case round =>
        obtain ⟨k, hk, rfl, HA1, rfl⟩ := hrel
        by_cases hlt : k < n0
        · have hkn : (k : Int) < (n0 : Int) := by omega
          obtain ⟨a, ha⟩ := HM3.out.attrs.get (i := k) (by rw [HN0.out]; exact hlt)
          obtain ⟨b, o, cq, eq, hst⟩ := HM3.out.attrs.st ha
          rw [HN0.out] at eq
          cases eq
          have g := hst.c
          obtain ⟨l, hl⟩ : ∃ l, a.size = l := ⟨_, rfl⟩
          have HL := Lib.hid hl
          have HAK := Lib.hid ha
          clear ha hst
          by_cases h : 60 < l
          · have hi : (60 : Int) < (a.size : Int) := by omega
            clear h
            go_wp2_with fail
            go_ret
            exact ⟨true, rfl, Lib.hid (fun h => by cases h), HB3.out⟩
          · have hi : ¬ (60 : Int) < (a.size : Int) := by omega
            have hle : l ≤ 60 := by omega
            have HA := Lib.hid (HA1.out.succ HAK.out (show a.size ≤ 60 by rw [HL.out]; exact hle))
            clear h
            go_wp2_with fail
            go_roundw
            case rel => exact ⟨k + 1, by omega, by go_num, HA, trivial⟩
            case measure => simp [intOf]; omega
        · obtain rfl : k = n0 := by omega
          go_wp2_with fail
          obtain ⟨w3, rfl⟩ : ∃ W, W = wr := ⟨_, rfl⟩
          go_loopw [7] (fun s wr => ∃ k : Nat, k ≤ n2 ∧ s = .int .i64 k ∧ Hid (AllTo (fun s : ByteArray => s.size ≤ 60) M.users k) ∧ wr = w3) (fun s _ => n2 - (intOf s).toNat)
          case atStart => exact ⟨0, Nat.zero_le _, rfl, AllTo.zero _ _, rfl⟩
          case round =>
            obtain ⟨k, hk, rfl, HA2, rfl⟩ := hrel
            by_cases hlt : k < n2
            · have hkn : (k : Int) < (n2 : Int) := by omega
              obtain ⟨a, ha⟩ := HM3.out.users.get (i := k) (by rw [HN2.out]; exact hlt)
              obtain ⟨b, o, cq, eq, hst⟩ := HM3.out.users.st ha
              rw [HN2.out] at eq
              cases eq
              have g := hst.c
              obtain ⟨l, hl⟩ : ∃ l, a.size = l := ⟨_, rfl⟩
              have HL := Lib.hid hl
              have HAK := Lib.hid ha
              clear ha hst
              by_cases h : 60 < l
              · have hi : (60 : Int) < (a.size : Int) := by omega
                clear h
                go_wp2_with fail
                go_ret
                exact ⟨true, rfl, Lib.hid (fun h => by cases h), HB3.out⟩
              · have hi : ¬ (60 : Int) < (a.size : Int) := by omega
                have hle : l ≤ 60 := by omega
                have HA := Lib.hid (HA2.out.succ HAK.out (show a.size ≤ 60 by rw [HL.out]; exact hle))
                clear h
                go_wp2_with fail
                go_roundw
                case rel => exact ⟨k + 1, by omega, by go_num, HA, trivial⟩
                case measure => simp [intOf]; omega
            · obtain rfl : k = n2 := by omega
              go_wp2_with fail
              obtain ⟨w3, rfl⟩ : ∃ W, W = wr := ⟨_, rfl⟩
              go_loopw [8] (fun s wr => ∃ k : Nat, k ≤ n5 ∧ s = .int .i64 k ∧ Hid (AllTo (fun e : Ev => e.name.size ≤ 60) M.events k) ∧ wr = w3) (fun s _ => n5 - (intOf s).toNat)
              case atStart => exact ⟨0, Nat.zero_le _, rfl, AllTo.zero _ _, rfl⟩
              case round =>
                obtain ⟨k, hk, rfl, HA3, rfl⟩ := hrel
                by_cases hlt : k < n5
                · have hkn : (k : Int) < (n5 : Int) := by omega
                  obtain ⟨a, ha⟩ := HM3.out.events.get (i := k) (by rw [HN5.out]; exact hlt)
                  obtain ⟨b, o, cq, sv, eq, hev⟩ := HM3.out.event_at ha
                  rw [HN5.out] at eq
                  cases eq
                  have g := hev.c0
                  obtain ⟨l, hl⟩ : ∃ l, a.name.size = l := ⟨_, rfl⟩
                  have HL := Lib.hid hl
                  have HAK := Lib.hid ha
                  clear ha hev
                  by_cases h : 60 < l
                  · have hi : (60 : Int) < (a.name.size : Int) := by omega
                    clear h
                    go_wp2_with fail
                    go_ret
                    exact ⟨true, rfl, Lib.hid (fun h => by cases h), HB3.out⟩
                  · have hi : ¬ (60 : Int) < (a.name.size : Int) := by omega
                    have hle : l ≤ 60 := by omega
                    have HA := Lib.hid (HA3.out.succ HAK.out (show a.name.size ≤ 60 by rw [HL.out]; exact hle))
                    clear h
                    go_wp2_with fail
                    go_roundw
                    case rel => exact ⟨k + 1, by omega, by go_num, HA, trivial⟩
                    case measure => simp [intOf]; omega
                · obtain rfl : k = n5 := by omega
                  go_wp2_with fail
                  go_ret
                  refine ⟨false, rfl, Lib.hid (fun _ => ⟨⟨?_, ?_, ?_⟩, by rw [HN.out]; omega, ?_⟩), HB3.out⟩
                  · exact AllTo.all (by rw [HN0.out]; exact HA1.out)
                  · exact AllTo.all (by rw [HN2.out]; exact HA2.out)
                  · exact AllTo.all (by rw [HN5.out]; exact HA3.out)
                  · exact AllTo.all (by rw [HN.out]; exact HA0.out)

end Go.Proofs.YtgmijfmbbaipfaaDoor
