/- Same of warderref22: of two zones that are the same. The law PutPuts: SameAll, Great, awake. Sorted of warderref03 (printed by gen_srt.py). -/
import Derived.Test.YtkkoooagamadjaaGreatDoorPk10
import Derived.Test.YtkkoooagamadjaaGreatDoorPk16
import Derived.Test.YtkkoooagamadjaaGreatDoorPk21
import Derived.Test.YtkkoooagamadjaaGreatDoorPk09
import Derived.Test.YtkkoooagamadjaaGreatDoorPk06

namespace Go.Proofs.YtkkoooagamadjaaGreatDoor
open Go.RowKit

set_option maxRecDepth 100000 in
set_option maxHeartbeats 2000000 in
/-- Same, where both are the same -/
theorem zsame_eq (b1 b2 : Nat) (v1 v2 u1 u2 : Value) (cl : List (Int × Int)) (gl : List Int) (w : World) (h1 : ZoneAt w b1 v1 v2 cl gl) (h2 : ZoneAt w b2 u1 u2 cl gl) (hcl : cl.length ≤ 65536) (hgl : gl.length ≤ 65536) :
    Calls Tryz.prog 16 #[.agg #[v1, v2], .agg #[u1, u2]] w fun e w' => e = .returned (.bool true) ∧ Below w.heap.size w w' := by
  have x2 := (Box2.new w v1 v2).alloc (.cells #[u1, u2] 28)
  have x3 := Box2.new (w.alloc (.cells #[v1, v2] 28)) u1 u2
  simp only [World.size_alloc] at x3
  have hb0 : Below w.heap.size w ((w.alloc (.cells #[v1, v2] 28)).alloc (.cells #[u1, u2] 28)) := ((Below.refl _ w).alloc (Nat.le_refl _) _).alloc (by simp) _
  have hs0 : ((w.alloc (.cells #[v1, v2] 28)).alloc (.cells #[u1, u2] 28)).heap.size = w.heap.size + 2 := by simp
  have z1 := h1.below hb0
  have z2 := h2.below hb0
  obtain ⟨a1, k1, e1⟩ := owns_len h1.1
  obtain ⟨a2, k2, e2⟩ := owns_len h1.2
  obtain ⟨a3, k3, e3⟩ := owns_len h2.1
  obtain ⟨a4, k4, e4⟩ := owns_len h2.2
  obtain ⟨n, hn⟩ : ∃ n, cl.length = n := ⟨_, rfl⟩
  obtain ⟨m, hm⟩ : ∃ m, gl.length = m := ⟨_, rfl⟩
  have HN := Lib.hid hn; have HM := Lib.hid hm
  rw [hn] at e1 e3 hcl; rw [hm] at e2 e4 hgl
  subst e1; subst e2; subst e3; subst e4
  have X2 := Lib.hid x2; have X3 := Lib.hid x3; have Z1 := Lib.hid z1; have Z2 := Lib.hid z2; have HB0 := Lib.hid hb0
  clear x2 x3 z1 z2 hb0 h1 h2 hn hm
  go_enter Tryz.func16, Tryz.ntmps16
  go_wp2
  obtain ⟨W0, hW0⟩ : ∃ W0, ((w.alloc (.cells #[.slice a1 n k1, .slice a2 m k2] 28)).alloc (.cells #[.slice a3 n k3, .slice a4 m k4] 28)) = W0 := ⟨_, rfl⟩
  rw [hW0] at X2 X3 Z1 Z2 HB0 hs0 ⊢
  clear hW0
  go_loopw [5] (fun i wr => ∃ k : Nat, i = .int .i64 k ∧ k ≤ n ∧ Hid (Below W0.heap.size W0 wr)) (fun i _ => n - (intOf i).toNat)
  case atStart => exact ⟨0, rfl, Nat.zero_le _, Below.refl _ _⟩
  case round =>
    obtain ⟨k, rfl, hk, hb⟩ := hrel
    have x2 : Box2 wr w.heap.size _ _ := (hb.out.block _ X2.out.lt).trans X2.out
    have x3 : Box2 wr (w.heap.size + 1) _ _ := (hb.out.block _ X3.out.lt).trans X3.out
    have c20 := x2.c0; have c21 := x2.c1; have c30 := x3.c0; have c31 := x3.c1
    by_cases hlt : k < n
    · have p1 : (k : Int) < (n : Int) := by omega
      have hkl : k < cl.length := by rw [HN.out]; exact hlt
      obtain ⟨x, hx⟩ : ∃ x, cl[k]? = some x := ⟨_, List.getElem?_eq_getElem hkl⟩
      have cx := cellsP_get _ _ _ hx
      have y1 := owns_below Z1.out.1 hb.out; have y2 := owns_below Z2.out.1 hb.out
      obtain ⟨g, q1, t1⟩ := owns_slice y1 (by omega)
      obtain ⟨g', q2, t2⟩ := owns_slice y2 (by omega)
      cases t1; cases t2
      have d1 : wr.cell? ⟨g, k * 2, none⟩ = some (.int .i64 x.1) := by rw [y1.cellAt _ (by omega)]; exact cx.1
      have d2 : wr.cell? ⟨g, k * 2 + 1, none⟩ = some (.int .i64 x.2) := by rw [y1.cellAt _ (by omega)]; exact cx.2
      have d3 : wr.cell? ⟨g', k * 2, none⟩ = some (.int .i64 x.1) := by rw [y2.cellAt _ (by omega)]; exact cx.1
      have d4 : wr.cell? ⟨g', k * 2 + 1, none⟩ = some (.int .i64 x.2) := by rw [y2.cellAt _ (by omega)]; exact cx.2
      obtain ⟨xa, xb⟩ := x
      dsimp only at d1 d2 d3 d4
      clear cx hx x2 x3 y1 y2
      go_wp2
      go_quiet (fail)
      go_wp2
      go_roundw
      case rel => exact ⟨k + 1, by go_num, by omega, Lib.hid (below_drewN hb.out _)⟩
      case measure => simp [intOf]; omega
    · obtain rfl : k = n := by omega
      clear x2 x3 hlt
      go_wp2
      obtain ⟨W1, rfl⟩ : ∃ W1, W1 = wr := ⟨_, rfl⟩
      go_loopw [6] (fun i wr => ∃ j : Nat, i = .int .i64 j ∧ j ≤ m ∧ Hid (Below W0.heap.size W0 wr)) (fun i _ => m - (intOf i).toNat)
      case atStart => exact ⟨0, rfl, Nat.zero_le _, hb⟩
      case round =>
        clear c20 c21 c30 c31 hb
        obtain ⟨j, rfl, hj, hb⟩ := hrel
        have x2 : Box2 wr w.heap.size _ _ := (hb.out.block _ X2.out.lt).trans X2.out
        have x3 : Box2 wr (w.heap.size + 1) _ _ := (hb.out.block _ X3.out.lt).trans X3.out
        have c20 := x2.c0; have c21 := x2.c1; have c30 := x3.c0; have c31 := x3.c1
        by_cases hlt : j < m
        · have p1 : (j : Int) < (m : Int) := by omega
          have hkl : j < gl.length := by rw [HM.out]; exact hlt
          obtain ⟨x, hx⟩ : ∃ x, gl[j]? = some x := ⟨_, List.getElem?_eq_getElem hkl⟩
          have cx : (ints gl)[j]? = some (.int .i64 x) := by simp [ints, hx]
          have y1 := owns_below Z1.out.2 hb.out; have y2 := owns_below Z2.out.2 hb.out
          obtain ⟨g, q1, t1⟩ := owns_slice y1 (by omega)
          obtain ⟨g', q2, t2⟩ := owns_slice y2 (by omega)
          cases t1; cases t2
          have d1 : wr.cell? ⟨g, j, none⟩ = some (.int .i64 x) := by rw [y1.cellAt _ (by omega)]; exact cx
          have d3 : wr.cell? ⟨g', j, none⟩ = some (.int .i64 x) := by rw [y2.cellAt _ (by omega)]; exact cx
          clear cx hx x2 x3 y1 y2
          go_wp2
          go_quiet (fail)
          go_wp2
          go_roundw
          case rel => exact ⟨j + 1, by go_num, by omega, Lib.hid (below_drewN hb.out _)⟩
          case measure => simp [intOf]; omega
        · obtain rfl : j = m := by omega
          have HF := Lib.hid (HB0.out.trans (hb.out.mono HB0.out.size))
          clear x2 x3 hlt
          go_wp2
          go_ret
          exact ⟨rfl, HF.out⟩

end Go.Proofs.YtkkoooagamadjaaGreatDoor

namespace Go.Proofs.YtkkoooagamadjaaGreatDoor
open Go.RowKit Go.Shelf

def SmallZ (z : Zn) : Prop := z.1.length ≤ 1000 ∧ z.2.length ≤ 1000
theorem own_small (cl : List (Int × Int)) (gl : List Int) (a r : Int) (k f u : Nat) (news : List Int) (h1 : cl.length ≤ 60) (h2 : gl.length ≤ 60) (h3 : news.length ≤ 16) : SmallZ (ownZ cl gl a r k f u news) := by
  refine ⟨by simp only [ownZ, ownC_len]; omega, ?_⟩
  simp only [ownZ, repG, List.length_append, List.length_take, List.length_drop, clipL_len]
  omega
theorem in_small (cl : List (Int × Int)) (gl : List Int) (a r : Int) (i : Nat) (x y : Int) (h1 : cl.length ≤ 60) (h2 : gl.length ≤ 60) : SmallZ (inCZ cl gl a r i x y) :=
  ⟨by simp only [inCZ, List.length_set]; omega, by simp only [inCZ, clipL_len]; omega⟩
theorem putA_small (cl : List (Int × Int)) (gl : List Int) (a r : Int) (h1 : cl.length ≤ 60) (h2 : gl.length ≤ 60) : ∀ z ∈ putA cl gl a r, SmallZ z := by
  intro z hz
  unfold putA at hz
  split at hz
  · simp only [List.mem_singleton] at hz
    subst hz; exact own_small _ _ _ _ _ _ _ _ h1 h2 (by simp)
  · rw [List.mem_append, List.mem_append] at hz
    rcases hz with (hz | hz) | hz
    · obtain ⟨g, _, rfl⟩ := List.mem_map.1 hz
      exact own_small _ _ _ _ _ _ _ _ h1 h2 (by simp)
    · obtain ⟨i, _, hz⟩ := List.mem_flatMap.1 hz
      unfold stepZ at hz
      rcases List.mem_cons.1 hz with rfl | hz
      · exact in_small _ _ _ _ _ _ _ h1 h2
      · split at hz
        · obtain ⟨s, _, rfl⟩ := List.mem_map.1 hz
          exact own_small _ _ _ _ _ _ _ _ h1 h2 (by simp)
        · cases hz
    · obtain ⟨g, _, rfl⟩ := List.mem_map.1 hz
      exact own_small _ _ _ _ _ _ _ _ h1 h2 (by simp)
theorem putL_small (cl : List (Int × Int)) (gl : List Int) (a r : Int) (h1 : cl.length ≤ 60) (h2 : gl.length ≤ 60) : ∀ z ∈ putL cl gl a r, SmallZ z := by
  intro z hz
  unfold putL at hz
  repeat' split at hz
  all_goals first | (cases hz; done) | exact putA_small cl gl a r h1 h2 z hz
theorem putA_len (cl : List (Int × Int)) (gl : List Int) (a r : Int) (h1 : cl.length ≤ 60) (hr1 : 1 ≤ r) (hr2 : r ≤ 6) : (putA cl gl a r).length ≤ 70000 := by
  unfold putA
  split
  · simp
  · rw [List.length_append, List.length_append, headZ_len, tailZ_len, List.length_reverse]
    have m1 := midZ_len cl gl a r cl.length hr1 hr2
    have m2 := outL_len r hr1 hr2
    have m3 : cl.length * 1025 ≤ 60 * 1025 := Nat.mul_le_mul_right _ h1
    omega
theorem putL_len (cl : List (Int × Int)) (gl : List Int) (a r : Int) (h1 : cl.length ≤ 60) (hr2 : r ≤ 6) : (putL cl gl a r).length ≤ 70000 := by
  unfold putL
  split
  · simp
  · repeat' split
    all_goals first | (simp; done) | exact putA_len cl gl a r h1 (by omega) hr2

/-- a zone of a row -/
theorem ZonesAt.at {W : World} {base n cap : Nat} {ad : Option Addr} {zs : List Zn} (h : ZonesAt W base (.slice ad n cap) zs) {k : Nat} {z : Zn} (hk : zs[k]? = some z) :
    ∃ g c1 c2, ad = some ⟨g, 0, none⟩ ∧ n = zs.length ∧ W.cell? ⟨g, k * 2, none⟩ = some c1 ∧ W.cell? ⟨g, k * 2 + 1, none⟩ = some c2 ∧ ZoneAt W base c1 c2 z.1 z.2 := by
  obtain ⟨ps, hl, hr, hz⟩ := h
  have hkl := (List.getElem?_eq_some_iff.1 hk).1
  obtain ⟨p, hp⟩ : ∃ p, ps[k]? = some p := ⟨_, List.getElem?_eq_getElem (by omega)⟩
  obtain ⟨g, cap', e1, _, _⟩ := owns_shape hr (by omega)
  simp only [Value.slice.injEq] at e1
  obtain ⟨rfl, hn, rfl⟩ := e1
  subst hn
  obtain ⟨c1, c2⟩ := zcells_get ps k p hp
  exact ⟨g, p.1, p.2, rfl, rfl, by rw [hr.cellAt _ (by omega)]; exact c1, by rw [hr.cellAt _ (by omega)]; exact c2, hz k p z hp hk⟩

set_option maxRecDepth 100000 in
theorem great_any {w : World} {v1 v2 : Value} {cl : List (Int × Int)} {gl : List Int} (hz : ZoneIn w v1 v2 cl gl) :
    Calls Tryz.prog 10 #[.agg #[v1, v2]] w fun e w' => e = .returned (.bool (decide (40 < cl.length) || decide (40 < gl.length))) ∧ Below w.heap.size w w' := by
  obtain ⟨ad1, cap1, rfl⟩ := hz.1.len
  obtain ⟨ad2, cap2, rfl⟩ := hz.2.len
  obtain ⟨n, hn⟩ : ∃ n, cl.length = n := ⟨_, rfl⟩
  obtain ⟨m, hm⟩ : ∃ m, gl.length = m := ⟨_, rfl⟩
  rw [hn, hm]
  clear hz hn hm
  by_cases h1 : 40 < n
  · have p1 : (40 : Int) < (n : Int) := by omega
    go_enter Tryz.func10, Tryz.ntmps10
    go_wp2
    go_ret
    exact ⟨ret_bool (by simp [h1]), (Below.refl _ w).alloc (Nat.le_refl _) _⟩
  · have p1 : ¬ (40 : Int) < (n : Int) := by omega
    by_cases h2 : 40 < m
    · have p2 : (40 : Int) < (m : Int) := by omega
      go_enter Tryz.func10, Tryz.ntmps10
      go_wp2
      go_ret
      exact ⟨ret_bool (by simp), (Below.refl _ w).alloc (Nat.le_refl _) _⟩
    · have p2 : ¬ (40 : Int) < (m : Int) := by omega
      go_enter Tryz.func10, Tryz.ntmps10
      go_wp2
      go_ret
      exact ⟨ret_bool (by simp), (Below.refl _ w).alloc (Nat.le_refl _) _⟩

theorem awake_L : putL [(2, -1)] [] 0 1 = [([(1, -1), (2, -1)], [0]), ([(3, -1)], []), ([(2, -1), (1, -1)], [0])] := by decide +kernel

end Go.Proofs.YtkkoooagamadjaaGreatDoor

namespace Go.Proofs.YtkkoooagamadjaaGreatDoor
open Go.RowKit

theorem info_int64 : (Tryz.prog.info? 2).map (fun i => (i.zero, i.size, i.bytes)) = some (some (.int .i64 0), 1, 8) := by kernel_rfl

set_option maxRecDepth 100000 in
set_option maxHeartbeats 8000000 in
theorem rsorted_any (v : Value) (l : List Int) (w : World) (hv : Reads w v (ints l)) (hl : l.length ≤ 65536) :
    Calls Tryz.prog 29 #[v] w fun e w' => ∃ v', e = .returned v' ∧ w'.ownsRow w.heap.size 2 1 v' (sortS l).length (ints (sortS l)) ∧ Below w.heap.size w w' := by
  obtain ⟨q, hq⟩ : ∃ q, l.length = q := ⟨_, rfl⟩
  obtain ⟨adl, capl, rfl, -⟩ := hv.len
  rw [ints_len, hq] at hv ⊢
  rw [hq] at hl
  have HQ := Lib.hid hq
  have HV := Lib.hid hv
  clear hq hv
  go_enter Tryz.func29, Tryz.ntmps29
  go_wp2
  go_loopw [3, 4, 5, 6, 7] (fun out i _ _ _ wr => ∃ k : Nat, i = .int .i64 k ∧ k ≤ q ∧ wr.ownsRow w.heap.size 2 1 out (sortS (l.take k)).length (ints (sortS (l.take k))) ∧ Below w.heap.size w wr) (fun _ i _ _ _ _ => q - (intOf i).toNat)
  case atStart => exact ⟨0, rfl, Nat.zero_le _, World.ownsRow_nil _ _ _ _, Below.refl _ _⟩
  case round =>
    obtain ⟨k, rfl, hk, hout, hbw⟩ := hrel
    obtain ⟨w1, rfl⟩ : ∃ w1, w1 = wr := ⟨_, rfl⟩
    by_cases hlt : k < q
    · have hkl : k < l.length := by rw [HQ.out]; exact hlt
      obtain ⟨x, hx⟩ : ∃ x, l[k]? = some x := ⟨_, List.getElem?_eq_getElem hkl⟩
      have HST := Lib.hid (sortS_succ l k x hx)
      obtain ⟨bl, ol, rfl, hcl⟩ := HV.out.at (by omega)
      have hcx := hcl k (.int .i64 x) (by simp [ints, hx])
      have hbl0 : bl < w.heap.size := World.block_lt_of_cell? w _ hcx
      have kx : w1.cell? ⟨bl, ol + k, none⟩ = some (.int .i64 x) := (hbw.cell (p := ⟨bl, ol + k, none⟩) hbl0).trans hcx
      have hbl : bl < w1.heap.size := Nat.lt_of_lt_of_le hbl0 hbw.size
      have hO : (sortS (l.take k)).length ≤ 65536 := by have := sortS_len (l.take k); rw [List.length_take] at this; omega
      obtain ⟨O, hOe⟩ : ∃ O, sortS (l.take k) = O := ⟨_, rfl⟩
      unfold Hid at HST
      rw [hOe] at HST hout hO
      have HST := Lib.hid HST
      obtain ⟨m, hm⟩ : ∃ m, O.length = m := ⟨_, rfl⟩
      rw [hm] at hout hO
      obtain ⟨ado, capo, rfl⟩ := owns_len hout
      have HM := Lib.hid hm
      have HOUT := Lib.hid hout
      have hwsz := hbw.size
      have HBW := Lib.hid hbw
      clear hm hout hx hcx hcl hOe hbw
      have p1 : (k : Int) < (q : Int) := by omega
      go_wp2
      go_loopw [5, 6, 7] (fun nx inn kk w2 => ∃ (j : Nat) (b : Bool), kk = .int .i64 j ∧ inn = .bool b ∧ j ≤ m ∧ w2.ownsRow w1.heap.size 2 1 nx (innS x (O.take j)).1.length (ints (innS x (O.take j)).1) ∧ (innS x (O.take j)).2 = b ∧ Below w1.heap.size w1 w2) (fun _ _ kk _ => m - (intOf kk).toNat)
      case atStart => exact ⟨0, false, rfl, rfl, Nat.zero_le _, World.ownsRow_nil _ _ _ _, rfl, Below.refl _ _⟩
      case round =>
        obtain ⟨j, b, rfl, rfl, hj, hown, hbb, hb⟩ := hrel
        have hsz := hb.size
        have hil := innS_len x (O.take j)
        rw [List.length_take] at hil
        obtain ⟨⟨L, b'⟩, hLe⟩ : ∃ s, innS x (O.take j) = s := ⟨_, rfl⟩
        rw [hLe] at hown hbb hil
        dsimp only at hown hbb hil
        subst hbb
        have hL1 : L.length ≤ 65537 := by have : b'.toNat ≤ 1 := by cases b' <;> decide
                                          omega
        have HI := Lib.hid hLe
        clear hil hLe
        by_cases hjm : j < m
        · have hjl : j < O.length := by rw [HM.out]; exact hjm
          obtain ⟨o, hjo⟩ : ∃ o, O[j]? = some o := ⟨_, List.getElem?_eq_getElem hjl⟩
          have HJ := Lib.hid hjo
          obtain ⟨bo, oo, rfl, hco⟩ := (Reads.of_owns HOUT.out).at (by omega)
          have k20 : w1.cell? ⟨bo, oo + j, none⟩ = some (.int .i64 o) := hco j _ (by simp [ints, hjo])
          have hbo : bo < w1.heap.size := World.block_lt_of_cell? w1 _ k20
          have k2 : wr.cell? ⟨bo, oo + j, none⟩ = some (.int .i64 o) := (hb.cell (p := ⟨bo, oo + j, none⟩) hbo).trans k20
          have k1 : wr.cell? ⟨bl, ol + k, none⟩ = some (.int .i64 x) := (hb.cell (p := ⟨bl, ol + k, none⟩) hbl).trans kx
          have p0 : (j : Int) < (m : Int) := by omega
          have q0 : (0 : Int) ≤ (k : Int) := by omega
          have q1 : (0 : Int) ≤ (j : Int) := by omega
          obtain ⟨nx, rfl⟩ : ∃ nx, nx = u5 := ⟨_, rfl⟩
          clear hjo hco k20 kx
          cases b'
          · by_cases hle : x ≤ o
            · by_cases heq : o = x
              · have HS : Hid (innS x (O.take (j + 1)) = (L ++ [x], true)) := by
                  unfold Hid; rw [innS_succ x O j o HJ.out, HI.out, stepS]; simp [heq]
                have p1 : decide (x ≤ o) = true := by simp [hle]
                have p2 : (o == x) = true := by simp [heq]
                have p3 : (o != x) = false := by simp [heq]
                clear hle heq
                go_wp2_with fail
                
                go_quiet (fail)
                obtain ⟨w3, hw3⟩ : ∃ W, wr.drewN nq = W := ⟨_, rfl⟩
                have Fw3 : w3.cell? ⟨bl, ol + k, none⟩ = some (.int .i64 x) ∧ w3.cell? ⟨bo, oo + j, none⟩ = some (.int .i64 o) ∧ w3.ownsRow w1.heap.size 2 1 nx (L).length (ints (L)) ∧ Below w1.heap.size w1 w3 := by
                  rw [← hw3]; exact ⟨k1, k2, hown, hb.os, hb.tape, hb.output, hb.size, hb.block⟩
                rw [hw3]
                clear hw3 k1 k2 hown hb
                obtain ⟨k1, k2, hown, hb⟩ := Fw3
                have hsz := hb.size
                
                go_wp2_with (at_builtin; refine app1 w3 #[.int .i64 x] rfl _ _ 22 rfl w1.heap.size 2 (.int .i64 0) 1 8 Tryz.underlying22 info_int64 rfl (by decide) (by decide) _ _ _ rfl (by exact hown) rfl (by simp) rfl (by simp [Value.oneCell']) (by omega) hsz ?_; intro nx4 w4 hown' hg' hb')
                have Fw4 : w4.cell? ⟨bl, ol + k, none⟩ = some (.int .i64 x) ∧ w4.cell? ⟨bo, oo + j, none⟩ = some (.int .i64 o) ∧ w4.ownsRow w1.heap.size 2 1 nx4 (L ++ [x]).length (ints (L ++ [x])) ∧ Below w1.heap.size w1 w4 :=
                  ⟨(hb'.cell (p := ⟨bl, ol + k, none⟩) hbl).trans k1, (hb'.cell (p := ⟨bo, oo + j, none⟩) hbo).trans k2, by simpa [ints] using hown', hb.trans hb'⟩
                clear hown hown' hb hb' hg' k1 k2 hsz
                obtain ⟨k1, k2, hown, hb⟩ := Fw4
                have hsz := hb.size
                have hlen4 : (L ++ [x]).length = L.length + 1 := by simp
                
                go_quiet (fail)
                obtain ⟨w5, hw5⟩ : ∃ W, w4.drewN nq = W := ⟨_, rfl⟩
                have Fw5 : w5.cell? ⟨bl, ol + k, none⟩ = some (.int .i64 x) ∧ w5.cell? ⟨bo, oo + j, none⟩ = some (.int .i64 o) ∧ w5.ownsRow w1.heap.size 2 1 nx4 (L ++ [x]).length (ints (L ++ [x])) ∧ Below w1.heap.size w1 w5 := by
                  rw [← hw5]; exact ⟨k1, k2, hown, hb.os, hb.tape, hb.output, hb.size, hb.block⟩
                rw [hw5]
                clear hw5 k1 k2 hown hb
                obtain ⟨k1, k2, hown, hb⟩ := Fw5
                have hsz := hb.size
                go_wp2
                go_roundw
                case rel => exact ⟨j + 1, true, by go_num, rfl, by omega, by rw [HS.out]; exact hown, by rw [HS.out], hb⟩
                case measure => simp [intOf]; omega
                
              · have HS : Hid (innS x (O.take (j + 1)) = (L ++ [x] ++ [o], true)) := by
                  unfold Hid; rw [innS_succ x O j o HJ.out, HI.out, stepS]; simp [hle, heq]
                have p1 : decide (x ≤ o) = true := by simp [hle]
                have p2 : (o == x) = false := by simp [heq]
                have p3 : (o != x) = true := by simp [heq]
                clear hle heq
                go_wp2_with fail
                
                go_quiet (fail)
                obtain ⟨w3, hw3⟩ : ∃ W, wr.drewN nq = W := ⟨_, rfl⟩
                have Fw3 : w3.cell? ⟨bl, ol + k, none⟩ = some (.int .i64 x) ∧ w3.cell? ⟨bo, oo + j, none⟩ = some (.int .i64 o) ∧ w3.ownsRow w1.heap.size 2 1 nx (L).length (ints (L)) ∧ Below w1.heap.size w1 w3 := by
                  rw [← hw3]; exact ⟨k1, k2, hown, hb.os, hb.tape, hb.output, hb.size, hb.block⟩
                rw [hw3]
                clear hw3 k1 k2 hown hb
                obtain ⟨k1, k2, hown, hb⟩ := Fw3
                have hsz := hb.size
                
                go_wp2_with (at_builtin; refine app1 w3 #[.int .i64 x] rfl _ _ 22 rfl w1.heap.size 2 (.int .i64 0) 1 8 Tryz.underlying22 info_int64 rfl (by decide) (by decide) _ _ _ rfl (by exact hown) rfl (by simp) rfl (by simp [Value.oneCell']) (by omega) hsz ?_; intro nx4 w4 hown' hg' hb')
                have Fw4 : w4.cell? ⟨bl, ol + k, none⟩ = some (.int .i64 x) ∧ w4.cell? ⟨bo, oo + j, none⟩ = some (.int .i64 o) ∧ w4.ownsRow w1.heap.size 2 1 nx4 (L ++ [x]).length (ints (L ++ [x])) ∧ Below w1.heap.size w1 w4 :=
                  ⟨(hb'.cell (p := ⟨bl, ol + k, none⟩) hbl).trans k1, (hb'.cell (p := ⟨bo, oo + j, none⟩) hbo).trans k2, by simpa [ints] using hown', hb.trans hb'⟩
                clear hown hown' hb hb' hg' k1 k2 hsz
                obtain ⟨k1, k2, hown, hb⟩ := Fw4
                have hsz := hb.size
                have hlen4 : (L ++ [x]).length = L.length + 1 := by simp
                
                go_quiet (fail)
                obtain ⟨w5, hw5⟩ : ∃ W, w4.drewN nq = W := ⟨_, rfl⟩
                have Fw5 : w5.cell? ⟨bl, ol + k, none⟩ = some (.int .i64 x) ∧ w5.cell? ⟨bo, oo + j, none⟩ = some (.int .i64 o) ∧ w5.ownsRow w1.heap.size 2 1 nx4 (L ++ [x]).length (ints (L ++ [x])) ∧ Below w1.heap.size w1 w5 := by
                  rw [← hw5]; exact ⟨k1, k2, hown, hb.os, hb.tape, hb.output, hb.size, hb.block⟩
                rw [hw5]
                clear hw5 k1 k2 hown hb
                obtain ⟨k1, k2, hown, hb⟩ := Fw5
                have hsz := hb.size
                
                go_wp2_with (at_builtin; refine app1 w5 #[.int .i64 o] rfl _ _ 22 rfl w1.heap.size 2 (.int .i64 0) 1 8 Tryz.underlying22 info_int64 rfl (by decide) (by decide) _ _ _ rfl (by exact hown) rfl (by simp) rfl (by simp [Value.oneCell']) (by omega) hsz ?_; intro nx6 w6 hown' hg' hb')
                have Fw6 : w6.cell? ⟨bl, ol + k, none⟩ = some (.int .i64 x) ∧ w6.cell? ⟨bo, oo + j, none⟩ = some (.int .i64 o) ∧ w6.ownsRow w1.heap.size 2 1 nx6 (L ++ [x] ++ [o]).length (ints (L ++ [x] ++ [o])) ∧ Below w1.heap.size w1 w6 :=
                  ⟨(hb'.cell (p := ⟨bl, ol + k, none⟩) hbl).trans k1, (hb'.cell (p := ⟨bo, oo + j, none⟩) hbo).trans k2, by simpa [ints] using hown', hb.trans hb'⟩
                clear hown hown' hb hb' hg' k1 k2 hsz
                obtain ⟨k1, k2, hown, hb⟩ := Fw6
                have hsz := hb.size
                go_roundw
                case rel => exact ⟨j + 1, true, by go_num, rfl, by omega, by rw [HS.out]; exact hown, by rw [HS.out], hb⟩
                case measure => simp [intOf]; omega
                
            · have heq : ¬ o = x := by omega
              have HS : Hid (innS x (O.take (j + 1)) = (L ++ [o], false)) := by
                unfold Hid; rw [innS_succ x O j o HJ.out, HI.out, stepS]; simp [hle, heq]
              have p1 : decide (x ≤ o) = false := by simp [hle]
              have p2 : (o == x) = false := by simp [heq]
              have p3 : (o != x) = true := by simp [heq]
              clear hle heq
              go_wp2_with fail

              go_quiet (fail)
              obtain ⟨w3, hw3⟩ : ∃ W, wr.drewN nq = W := ⟨_, rfl⟩
              have Fw3 : w3.cell? ⟨bl, ol + k, none⟩ = some (.int .i64 x) ∧ w3.cell? ⟨bo, oo + j, none⟩ = some (.int .i64 o) ∧ w3.ownsRow w1.heap.size 2 1 nx (L).length (ints (L)) ∧ Below w1.heap.size w1 w3 := by
                rw [← hw3]; exact ⟨k1, k2, hown, hb.os, hb.tape, hb.output, hb.size, hb.block⟩
              rw [hw3]
              clear hw3 k1 k2 hown hb
              obtain ⟨k1, k2, hown, hb⟩ := Fw3
              have hsz := hb.size
              go_wp2_with fail

              go_quiet (fail)
              obtain ⟨w5, hw5⟩ : ∃ W, w3.drewN nq = W := ⟨_, rfl⟩
              have Fw5 : w5.cell? ⟨bl, ol + k, none⟩ = some (.int .i64 x) ∧ w5.cell? ⟨bo, oo + j, none⟩ = some (.int .i64 o) ∧ w5.ownsRow w1.heap.size 2 1 nx (L).length (ints (L)) ∧ Below w1.heap.size w1 w5 := by
                rw [← hw5]; exact ⟨k1, k2, hown, hb.os, hb.tape, hb.output, hb.size, hb.block⟩
              rw [hw5]
              clear hw5 k1 k2 hown hb
              obtain ⟨k1, k2, hown, hb⟩ := Fw5
              have hsz := hb.size

              go_wp2_with (at_builtin; refine app1 w5 #[.int .i64 o] rfl _ _ 22 rfl w1.heap.size 2 (.int .i64 0) 1 8 Tryz.underlying22 info_int64 rfl (by decide) (by decide) _ _ _ rfl (by exact hown) rfl (by simp) rfl (by simp [Value.oneCell']) (by omega) hsz ?_; intro nx6 w6 hown' hg' hb')
              have Fw6 : w6.cell? ⟨bl, ol + k, none⟩ = some (.int .i64 x) ∧ w6.cell? ⟨bo, oo + j, none⟩ = some (.int .i64 o) ∧ w6.ownsRow w1.heap.size 2 1 nx6 (L ++ [o]).length (ints (L ++ [o])) ∧ Below w1.heap.size w1 w6 :=
                ⟨(hb'.cell (p := ⟨bl, ol + k, none⟩) hbl).trans k1, (hb'.cell (p := ⟨bo, oo + j, none⟩) hbo).trans k2, by simpa [ints] using hown', hb.trans hb'⟩
              clear hown hown' hb hb' hg' k1 k2 hsz
              obtain ⟨k1, k2, hown, hb⟩ := Fw6
              have hsz := hb.size
              go_roundw
              case rel => exact ⟨j + 1, false, by go_num, rfl, by omega, by rw [HS.out]; exact hown, by rw [HS.out], hb⟩
              case measure => simp [intOf]; omega
          · have hle : True := trivial
            by_cases heq : o = x
            · have HS : Hid (innS x (O.take (j + 1)) = (L, true)) := by
                unfold Hid; rw [innS_succ x O j o HJ.out, HI.out, stepS]; simp [heq]
              have p2 : (o == x) = true := by simp [heq]
              have p3 : (o != x) = false := by simp [heq]
              clear hle heq
              go_wp2_with fail
              
              go_quiet (fail)
              obtain ⟨w3, hw3⟩ : ∃ W, wr.drewN nq = W := ⟨_, rfl⟩
              have Fw3 : w3.cell? ⟨bl, ol + k, none⟩ = some (.int .i64 x) ∧ w3.cell? ⟨bo, oo + j, none⟩ = some (.int .i64 o) ∧ w3.ownsRow w1.heap.size 2 1 nx (L).length (ints (L)) ∧ Below w1.heap.size w1 w3 := by
                rw [← hw3]; exact ⟨k1, k2, hown, hb.os, hb.tape, hb.output, hb.size, hb.block⟩
              rw [hw3]
              clear hw3 k1 k2 hown hb
              obtain ⟨k1, k2, hown, hb⟩ := Fw3
              have hsz := hb.size
              go_wp2_with fail
              
              go_quiet (fail)
              obtain ⟨w5, hw5⟩ : ∃ W, w3.drewN nq = W := ⟨_, rfl⟩
              have Fw5 : w5.cell? ⟨bl, ol + k, none⟩ = some (.int .i64 x) ∧ w5.cell? ⟨bo, oo + j, none⟩ = some (.int .i64 o) ∧ w5.ownsRow w1.heap.size 2 1 nx (L).length (ints (L)) ∧ Below w1.heap.size w1 w5 := by
                rw [← hw5]; exact ⟨k1, k2, hown, hb.os, hb.tape, hb.output, hb.size, hb.block⟩
              rw [hw5]
              clear hw5 k1 k2 hown hb
              obtain ⟨k1, k2, hown, hb⟩ := Fw5
              have hsz := hb.size
              go_wp2
              go_roundw
              case rel => exact ⟨j + 1, true, by go_num, rfl, by omega, by rw [HS.out]; exact hown, by rw [HS.out], hb⟩
              case measure => simp [intOf]; omega
              
            · have HS : Hid (innS x (O.take (j + 1)) = (L ++ [o], true)) := by
                unfold Hid; rw [innS_succ x O j o HJ.out, HI.out, stepS]; simp [heq]
              have p2 : (o == x) = false := by simp [heq]
              have p3 : (o != x) = true := by simp [heq]
              clear hle heq
              go_wp2_with fail
              
              go_quiet (fail)
              obtain ⟨w3, hw3⟩ : ∃ W, wr.drewN nq = W := ⟨_, rfl⟩
              have Fw3 : w3.cell? ⟨bl, ol + k, none⟩ = some (.int .i64 x) ∧ w3.cell? ⟨bo, oo + j, none⟩ = some (.int .i64 o) ∧ w3.ownsRow w1.heap.size 2 1 nx (L).length (ints (L)) ∧ Below w1.heap.size w1 w3 := by
                rw [← hw3]; exact ⟨k1, k2, hown, hb.os, hb.tape, hb.output, hb.size, hb.block⟩
              rw [hw3]
              clear hw3 k1 k2 hown hb
              obtain ⟨k1, k2, hown, hb⟩ := Fw3
              have hsz := hb.size
              go_wp2_with fail
              
              go_quiet (fail)
              obtain ⟨w5, hw5⟩ : ∃ W, w3.drewN nq = W := ⟨_, rfl⟩
              have Fw5 : w5.cell? ⟨bl, ol + k, none⟩ = some (.int .i64 x) ∧ w5.cell? ⟨bo, oo + j, none⟩ = some (.int .i64 o) ∧ w5.ownsRow w1.heap.size 2 1 nx (L).length (ints (L)) ∧ Below w1.heap.size w1 w5 := by
                rw [← hw5]; exact ⟨k1, k2, hown, hb.os, hb.tape, hb.output, hb.size, hb.block⟩
              rw [hw5]
              clear hw5 k1 k2 hown hb
              obtain ⟨k1, k2, hown, hb⟩ := Fw5
              have hsz := hb.size
              
              go_wp2_with (at_builtin; refine app1 w5 #[.int .i64 o] rfl _ _ 22 rfl w1.heap.size 2 (.int .i64 0) 1 8 Tryz.underlying22 info_int64 rfl (by decide) (by decide) _ _ _ rfl (by exact hown) rfl (by simp) rfl (by simp [Value.oneCell']) (by omega) hsz ?_; intro nx6 w6 hown' hg' hb')
              have Fw6 : w6.cell? ⟨bl, ol + k, none⟩ = some (.int .i64 x) ∧ w6.cell? ⟨bo, oo + j, none⟩ = some (.int .i64 o) ∧ w6.ownsRow w1.heap.size 2 1 nx6 (L ++ [o]).length (ints (L ++ [o])) ∧ Below w1.heap.size w1 w6 :=
                ⟨(hb'.cell (p := ⟨bl, ol + k, none⟩) hbl).trans k1, (hb'.cell (p := ⟨bo, oo + j, none⟩) hbo).trans k2, by simpa [ints] using hown', hb.trans hb'⟩
              clear hown hown' hb hb' hg' k1 k2 hsz
              obtain ⟨k1, k2, hown, hb⟩ := Fw6
              have hsz := hb.size
              go_roundw
              case rel => exact ⟨j + 1, true, by go_num, rfl, by omega, by rw [HS.out]; exact hown, by rw [HS.out], hb⟩
              case measure => simp [intOf]; omega
              
        · obtain rfl : j = m := by omega
          have hI := HI.out
          rw [← HM.out, List.take_length] at hI
          cases b'
          · have HS : Hid (sortS (l.take (k + 1)) = L ++ [x]) := by unfold Hid; rw [HST.out, insS, hI]; rfl
            have k1 : wr.cell? ⟨bl, ol + k, none⟩ = some (.int .i64 x) := (hb.cell (p := ⟨bl, ol + k, none⟩) hbl).trans kx
            have q0 : (0 : Int) ≤ (k : Int) := by omega
            clear hI
            go_wp2_with (at_builtin; refine app1 wr #[.int .i64 x] rfl _ _ 22 rfl w1.heap.size 2 (.int .i64 0) 1 8 Tryz.underlying22 info_int64 rfl (by decide) (by decide) _ _ _ rfl (by exact hown) rfl (by simp) rfl (by simp [Value.oneCell']) (by omega) hsz ?_; intro nx4 w4 hown' hg' hb')
            have hown2 : w4.ownsRow w1.heap.size 2 1 nx4 (L ++ [x]).length (ints (L ++ [x])) := by simpa [ints] using hown'
            exact ⟨⟨k + 1, by go_num, by omega, by rw [HS.out]; exact owns_mono hown2 hwsz, HBW.out.trans ((hb.trans hb').mono hwsz)⟩, by simp [intOf]; omega⟩
          · have HS : Hid (sortS (l.take (k + 1)) = L) := by unfold Hid; rw [HST.out, insS, hI]; rfl
            clear hI
            go_wp2
            exact ⟨⟨k + 1, by go_num, by omega, by rw [HS.out]; exact owns_mono hown hwsz, HBW.out.trans (hb.mono hwsz)⟩, by simp [intOf]; omega⟩
    · obtain rfl : k = q := by omega
      have HS : Hid (l.take k = l) := by unfold Hid; rw [← HQ.out, List.take_length]
      go_wp2
      go_ret
      rw [HS.out] at hout
      exact ⟨_, rfl, hout, hbw⟩

end Go.Proofs.YtkkoooagamadjaaGreatDoor
