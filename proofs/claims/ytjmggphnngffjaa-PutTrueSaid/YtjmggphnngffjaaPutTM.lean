import Derived.Test.YtjmggphnngffjaaZSame
import Derived.Test.YtjmggphnngffjaaPutL
import Derived.Test.YtjmggphnngffjaaPutM
import Derived.Test.YtjmggphnngffjaaPutPlainM
import Derived.Test.YtjmggphnngffjaaZone2
/- Same of warderref22: of any two zones. -/
namespace Go.Proofs.Ytjmggphnngffjaa
open Go.RowKit

theorem list_ne_of_get {α : Type} {l m : List α} (k : Nat) (x y : α) (h1 : l[k]? = some x) (h2 : m[k]? = some y) (h : x ≠ y) : l ≠ m := by
  intro e; subst e; rw [h1] at h2; exact h (Option.some.inj h2)
theorem list_eq_of_get {α : Type} {l m : List α} (n : Nat) (h1 : l.length = n) (h2 : m.length = n) (h : ∀ j, j < n → l[j]? = m[j]?) : l = m := by
  apply List.ext_getElem?
  intro j
  by_cases hj : j < n
  · exact h j hj
  · rw [List.getElem?_eq_none (by omega), List.getElem?_eq_none (by omega)]

set_option maxRecDepth 100000 in
set_option maxHeartbeats 4000000 in
/-- Same -/
theorem zsame_any (b1 b2 : Nat) (v1 v2 u1 u2 : Value) (cl dl : List (Int × Int)) (gl fl : List Int) (w : World) (h1 : ZoneAt w b1 v1 v2 cl gl) (h2 : ZoneAt w b2 u1 u2 dl fl) (hcl : cl.length ≤ 65536) (hgl : gl.length ≤ 65536) (hdl : dl.length ≤ 65536) (hfl : fl.length ≤ 65536) :
    Calls Try.prog 23 #[.agg #[v1, v2], .agg #[u1, u2]] w fun e w' => e = .returned (.bool (decide ((cl, gl) = (dl, fl)))) ∧ Below w.heap.size w w' := by
  have x2 := (Box2.new w v1 v2).alloc (.cells #[u1, u2] 45)
  have x3 := Box2.new (w.alloc (.cells #[v1, v2] 45)) u1 u2
  simp only [World.size_alloc] at x3
  have hb0 : Below w.heap.size w ((w.alloc (.cells #[v1, v2] 45)).alloc (.cells #[u1, u2] 45)) := ((Below.refl _ w).alloc (Nat.le_refl _) _).alloc (by simp) _
  have hs0 : ((w.alloc (.cells #[v1, v2] 45)).alloc (.cells #[u1, u2] 45)).heap.size = w.heap.size + 2 := by simp
  have z1 := h1.below hb0
  have z2 := h2.below hb0
  obtain ⟨a1, k1, e1⟩ := owns_len h1.1
  obtain ⟨a2, k2, e2⟩ := owns_len h1.2
  obtain ⟨a3, k3, e3⟩ := owns_len h2.1
  obtain ⟨a4, k4, e4⟩ := owns_len h2.2
  obtain ⟨n, hn⟩ : ∃ n, cl.length = n := ⟨_, rfl⟩
  obtain ⟨m, hm⟩ : ∃ m, gl.length = m := ⟨_, rfl⟩
  obtain ⟨n', hn'⟩ : ∃ n, dl.length = n := ⟨_, rfl⟩
  obtain ⟨m', hm'⟩ : ∃ m, fl.length = m := ⟨_, rfl⟩
  obtain ⟨ans, ha⟩ : ∃ ans, decide ((cl, gl) = (dl, fl)) = ans := ⟨_, rfl⟩
  rw [ha]
  have HA := Lib.hid ha
  have HN := Lib.hid hn; have HM := Lib.hid hm; have HN' := Lib.hid hn'; have HM' := Lib.hid hm'
  rw [hn] at e1 hcl; rw [hm] at e2 hgl; rw [hn'] at e3 hdl; rw [hm'] at e4 hfl
  subst e1; subst e2; subst e3; subst e4
  have X2 := Lib.hid x2; have X3 := Lib.hid x3; have Z1 := Lib.hid z1; have Z2 := Lib.hid z2; have HB0 := Lib.hid hb0
  clear x2 x3 z1 z2 hb0 h1 h2 hn hm hn' hm' ha
  by_cases hnn : n = n'
  rotate_left
  · have hnz : ¬ (n : Int) = (n' : Int) := by omega
    obtain rfl : ans = false := by
      rw [← HA.out]
      refine decide_eq_false fun e => hnn ?_
      rw [← HN.out, ← HN'.out, (Prod.mk.inj e).1]
    clear hnn
    go_enter Try.func23, Try.ntmps23
    go_wp2
    go_ret
    exact ⟨rfl, HB0.out⟩
  subst hnn
  by_cases hmm : m = m'
  rotate_left
  · have hnz : ¬ (m : Int) = (m' : Int) := by omega
    obtain rfl : ans = false := by
      rw [← HA.out]
      refine decide_eq_false fun e => hmm ?_
      rw [← HM.out, ← HM'.out, (Prod.mk.inj e).2]
    clear hmm
    go_enter Try.func23, Try.ntmps23
    go_wp2
    go_ret
    exact ⟨rfl, HB0.out⟩
  subst hmm
  go_enter Try.func23, Try.ntmps23
  go_wp2
  obtain ⟨W0, hW0⟩ : ∃ W0, ((w.alloc (.cells #[.slice a1 n k1, .slice a2 m k2] 45)).alloc (.cells #[.slice a3 n k3, .slice a4 m k4] 45)) = W0 := ⟨_, rfl⟩
  rw [hW0] at X2 X3 Z1 Z2 HB0 hs0 ⊢
  clear hW0
  go_loopw [5] (fun i wr => ∃ k : Nat, i = .int .i64 k ∧ k ≤ n ∧ Hid (Below W0.heap.size W0 wr) ∧ Hid (∀ j, j < k → cl[j]? = dl[j]?)) (fun i _ => n - (intOf i).toNat)
  case atStart => exact ⟨0, rfl, Nat.zero_le _, Below.refl _ _, fun j h => by omega⟩
  case round =>
    obtain ⟨k, rfl, hk, hb, HE⟩ := hrel
    have x2 : Box2 wr w.heap.size _ _ := (hb.out.block _ X2.out.lt).trans X2.out
    have x3 : Box2 wr (w.heap.size + 1) _ _ := (hb.out.block _ X3.out.lt).trans X3.out
    have c20 := x2.c0; have c21 := x2.c1; have c30 := x3.c0; have c31 := x3.c1
    by_cases hlt : k < n
    · have p1 : (k : Int) < (n : Int) := by omega
      have hkl : k < cl.length := by rw [HN.out]; exact hlt
      obtain ⟨x, hx⟩ : ∃ x, cl[k]? = some x := ⟨_, List.getElem?_eq_getElem hkl⟩
      obtain ⟨y, hy⟩ : ∃ y, dl[k]? = some y := ⟨_, List.getElem?_eq_getElem (by rw [HN'.out]; exact hlt)⟩
      have cx := cellsP_get _ _ _ hx
      have cy := cellsP_get _ _ _ hy
      have y1 := owns_below Z1.out.1 hb.out; have y2 := owns_below Z2.out.1 hb.out
      rw [HN.out] at y1; rw [HN'.out] at y2
      obtain ⟨g, q1, t1⟩ := owns_slice y1 (by omega)
      obtain ⟨g', q2, t2⟩ := owns_slice y2 (by omega)
      cases t1; cases t2
      have d1 : wr.cell? ⟨g, k * 2, none⟩ = some (.int .i64 x.1) := by rw [y1.cellAt _ (by omega)]; exact cx.1
      have d2 : wr.cell? ⟨g, k * 2 + 1, none⟩ = some (.int .i64 x.2) := by rw [y1.cellAt _ (by omega)]; exact cx.2
      have d3 : wr.cell? ⟨g', k * 2, none⟩ = some (.int .i64 y.1) := by rw [y2.cellAt _ (by omega)]; exact cy.1
      have d4 : wr.cell? ⟨g', k * 2 + 1, none⟩ = some (.int .i64 y.2) := by rw [y2.cellAt _ (by omega)]; exact cy.2
      obtain ⟨xa, xb⟩ := x
      obtain ⟨ya, yb⟩ := y
      dsimp only at d1 d2 d3 d4
      by_cases hxy : (xa, xb) = (ya, yb)
      · obtain ⟨rfl, rfl⟩ := Prod.mk.inj hxy
        have HE2 : Hid (∀ j, j < k + 1 → cl[j]? = dl[j]?) := Lib.hid fun j h => by
          by_cases hjk : j < k
          · exact HE.out j hjk
          · obtain rfl : j = k := by omega
            rw [hx, hy]
        clear cx cy hx hy x2 x3 y1 y2 hxy HE
        go_wp2
        go_quiet (fail)
        go_wp2
        go_roundw
        case rel => exact ⟨k + 1, by go_num, by omega, Lib.hid (below_drewN hb.out _), HE2⟩
        case measure => simp [intOf]; omega
      · obtain rfl : ans = false := by
          rw [← HA.out]
          refine decide_eq_false fun e => ?_
          exact list_ne_of_get k _ _ hx hy hxy (Prod.mk.inj e).1
        have HF := Lib.hid (HB0.out.trans (hb.out.mono HB0.out.size))
        by_cases hA : xa = ya
        · subst hA
          have hB : ¬ xb = yb := fun h => hxy (by rw [h])
          clear cx cy hx hy x2 x3 y1 y2 hxy HE
          go_wp2
          go_quiet (fail)
          go_wp2
          go_ret
          exact ⟨rfl, below_drewN HF.out _⟩
        · clear cx cy hx hy x2 x3 y1 y2 hxy HE
          go_wp2
          go_quiet (fail)
          go_wp2
          go_ret
          exact ⟨rfl, below_drewN HF.out _⟩
    · obtain rfl : k = n := by omega
      clear x2 x3 hlt
      go_wp2
      obtain ⟨W1, rfl⟩ : ∃ W1, W1 = wr := ⟨_, rfl⟩
      go_loopw [6] (fun i wr => ∃ j : Nat, i = .int .i64 j ∧ j ≤ m ∧ Hid (Below W0.heap.size W0 wr) ∧ Hid (∀ i, i < j → gl[i]? = fl[i]?)) (fun i _ => m - (intOf i).toNat)
      case atStart => exact ⟨0, rfl, Nat.zero_le _, hb, fun j h => by omega⟩
      case round =>
        clear c20 c21 c30 c31 hb
        obtain ⟨j, rfl, hj, hb, HG⟩ := hrel
        have x2 : Box2 wr w.heap.size _ _ := (hb.out.block _ X2.out.lt).trans X2.out
        have x3 : Box2 wr (w.heap.size + 1) _ _ := (hb.out.block _ X3.out.lt).trans X3.out
        have c20 := x2.c0; have c21 := x2.c1; have c30 := x3.c0; have c31 := x3.c1
        by_cases hlt : j < m
        · have p1 : (j : Int) < (m : Int) := by omega
          have hkl : j < gl.length := by rw [HM.out]; exact hlt
          obtain ⟨x, hx⟩ : ∃ x, gl[j]? = some x := ⟨_, List.getElem?_eq_getElem hkl⟩
          have cx : (ints gl)[j]? = some (.int .i64 x) := by simp [ints, hx]
          obtain ⟨y, hy⟩ : ∃ y, fl[j]? = some y := ⟨_, List.getElem?_eq_getElem (by rw [HM'.out]; exact hlt)⟩
          have cy : (ints fl)[j]? = some (.int .i64 y) := by simp [ints, hy]
          have y1 := owns_below Z1.out.2 hb.out; have y2 := owns_below Z2.out.2 hb.out
          rw [HM.out] at y1; rw [HM'.out] at y2
          obtain ⟨g, q1, t1⟩ := owns_slice y1 (by omega)
          obtain ⟨g', q2, t2⟩ := owns_slice y2 (by omega)
          cases t1; cases t2
          have d1 : wr.cell? ⟨g, j, none⟩ = some (.int .i64 x) := by rw [y1.cellAt _ (by omega)]; exact cx
          have d3 : wr.cell? ⟨g', j, none⟩ = some (.int .i64 y) := by rw [y2.cellAt _ (by omega)]; exact cy
          by_cases hxy : x = y
          · subst hxy
            have HG2 : Hid (∀ i, i < j + 1 → gl[i]? = fl[i]?) := Lib.hid fun i h => by
              by_cases hij : i < j
              · exact HG.out i hij
              · obtain rfl : i = j := by omega
                rw [hx, hy]
            clear cx cy hx hy x2 x3 y1 y2 HG
            go_wp2
            go_quiet (fail)
            go_wp2
            go_roundw
            case rel => exact ⟨j + 1, by go_num, by omega, Lib.hid (below_drewN hb.out _), HG2⟩
            case measure => simp [intOf]; omega
          · obtain rfl : ans = false := by
              rw [← HA.out]
              refine decide_eq_false fun e => ?_
              exact list_ne_of_get j _ _ hx hy hxy (Prod.mk.inj e).2
            have HF := Lib.hid (HB0.out.trans (hb.out.mono HB0.out.size))
            clear cx cy hx hy x2 x3 y1 y2 HG
            go_wp2
            go_quiet (fail)
            go_wp2
            go_ret
            exact ⟨rfl, below_drewN HF.out _⟩
        · obtain rfl : j = m := by omega
          have HF := Lib.hid (HB0.out.trans (hb.out.mono HB0.out.size))
          obtain rfl : ans = true := by
            rw [← HA.out]
            refine decide_eq_true ?_
            rw [list_eq_of_get k HN.out HN'.out HE.out, list_eq_of_get j HM.out HM'.out HG.out]
          clear x2 x3 hlt
          go_wp2
          go_ret
          exact ⟨rfl, HF.out⟩

end Go.Proofs.Ytjmggphnngffjaa

/- Has of warderlaw24. -/
namespace Go.Proofs.Ytjmggphnngffjaa
open Go.RowKit Go.Shelf

instance : DecidableEq Zn := inferInstanceAs (DecidableEq (List (Int × Int) × List Int))

set_option maxRecDepth 100000 in
set_option maxHeartbeats 2000000 in
theorem hasZ_any {w : World} {b1 b2 : Nat} {v1 u1 u2 : Value} {zs : List Zn} {z : Zn} (h1 : ZonesAt w b1 v1 zs) (h2 : ZoneAt w b2 u1 u2 z.1 z.2) (hs : ∀ z ∈ zs, SmallZ z) (hz : SmallZ z) (hl : zs.length ≤ 100000) :
    Calls Try.prog 19 #[v1, .agg #[u1, u2]] w fun e w' => e = .returned (.bool (decide (z ∈ zs))) ∧ Below w.heap.size w w' := by
  obtain ⟨ad1, k1, rfl⟩ := h1.len
  obtain ⟨a3, k3, e3⟩ := owns_len h2.1
  obtain ⟨a4, k4, e4⟩ := owns_len h2.2
  obtain ⟨n, hn⟩ : ∃ n, zs.length = n := ⟨_, rfl⟩
  obtain ⟨p, hp⟩ : ∃ p, z.1.length = p := ⟨_, rfl⟩
  obtain ⟨q, hq⟩ : ∃ q, z.2.length = q := ⟨_, rfl⟩
  rw [hp] at e3; rw [hq] at e4
  subst e3; subst e4
  obtain ⟨ans, ha⟩ : ∃ ans, decide (z ∈ zs) = ans := ⟨_, rfl⟩
  rw [ha]
  have hb0 : Below w.heap.size w (w.alloc (.cells #[.slice a3 p k3, .slice a4 q k4] 45)) := (Below.refl _ w).alloc (Nat.le_refl _) _
  have x2 := Box2.new w (.slice a3 p k3) (.slice a4 q k4)
  have HA := Lib.hid ha; have HB0 := Lib.hid hb0; have X2 := Lib.hid x2
  have HN := Lib.hid hn; have H1 := Lib.hid (h1.below hb0); have H2 := Lib.hid (h2.below hb0); have HS := Lib.hid hs; have HZ := Lib.hid hz
  rw [hn] at H1 hl ⊢
  clear h1 h2 hs hn hp hq ha hb0 x2 hz
  go_enter Try.func19, Try.ntmps19
  go_wp2_with fail
  obtain ⟨W0, hW0⟩ : ∃ W0, (w.alloc (.cells #[.slice a3 p k3, .slice a4 q k4] 45)) = W0 := ⟨_, rfl⟩
  rw [hW0] at X2 H1 H2 HB0 ⊢
  clear hW0
  go_loopw [5] (fun i wr => ∃ k : Nat, k ≤ n ∧ i = .int .i64 k ∧ Hid (Below W0.heap.size W0 wr) ∧ Hid (∀ j y, j < k → zs[j]? = some y → y ≠ z)) (fun i _ => n - (intOf i).toNat)
  case atStart => exact ⟨0, Nat.zero_le _, rfl, Below.refl _ _, fun j y h => by omega⟩
  case round =>
    obtain ⟨k, hk, rfl, HB, HE⟩ := hrel
    by_cases hlt : k < n
    · have hkn : (k : Int) < (n : Int) := by omega
      have hk0 : (0 : Int) ≤ (k : Int) := by omega
      obtain ⟨y, hy⟩ : ∃ y, zs[k]? = some y := ⟨_, List.getElem?_eq_getElem (by rw [HN.out]; exact hlt)⟩
      obtain ⟨g1, c1, c2, rfl, -, d0, d1, hz1⟩ := (H1.out.below HB.out).at hy
      have hz2 := H2.out.below HB.out
      have x2 : Box2 wr w.heap.size _ _ := (HB.out.block _ X2.out.lt).trans X2.out
      have d2 := x2.c0; have d3 := x2.c1
      obtain ⟨s1, s2⟩ := HS.out y (List.mem_of_getElem? hy)
      have s3 := HZ.out.1; have s4 := HZ.out.2
      have HSM := Lib.hid (zsame_any b1 b2 c1 c2 _ _ y.1 z.1 y.2 z.2 wr.drew hz1 hz2 (by omega) (by omega) (by omega) (by omega))
      obtain ⟨xa, xc, hx1⟩ := owns_len hz1.1
      obtain ⟨ya, yc, hy1⟩ := owns_len hz1.2
      subst hx1; subst hy1
      obtain ⟨eq, heq⟩ : ∃ eq, decide ((y.1, y.2) = (z.1, z.2)) = eq := ⟨_, rfl⟩
      rw [heq] at HSM
      have HEQ := Lib.hid heq
      have HY := Lib.hid hy
      clear hy hz1 hz2 x2 heq s1 s2 s3 s4
      go_upto_region 4 with fail
      go_cut [17] from 6 to 17 (fun v17 wx => v17 = .bool eq ∧ Hid (Below W0.heap.size W0 wx))
      case first =>
        go_region_law (first
          | (go_simp; go_at_call 23; (with_reducible refine HSM.out.mono ?_)
             rintro e w5 ⟨rfl, hb5⟩
             have HB5 := Lib.hid (show Below W0.heap.size W0 w5 from HB.out.drew.trans (hb5.mono HB.out.drew.size))
             clear hb5))
        all_goals
          go_wp2_with fail
          go_meet
          exact ⟨rfl, HB5⟩
      case rest =>
        clear d0 d1 d2 d3 HSM HB
        obtain ⟨rfl, HB⟩ := hcut
        cases eq
        · have HE2 : Hid (∀ j y, j < k + 1 → zs[j]? = some y → y ≠ z) := Lib.hid fun j y' h h' => by
            by_cases hjk : j < k
            · exact HE.out j y' hjk h'
            · obtain rfl : j = k := by omega
              have e := HY.out.symm.trans h'
              cases e
              exact fun e => of_decide_eq_false HEQ.out (by rw [e])
          go_wp2_with fail
          go_roundw
          case rel => exact ⟨k + 1, by omega, by go_num, HB, HE2⟩
          case measure => simp [intOf]; omega
        · have HF := Lib.hid (HB0.out.trans (HB.out.mono HB0.out.size))
          obtain rfl : ans = true := by
            rw [← HA.out]
            refine decide_eq_true ?_
            have e : y = z := of_decide_eq_true HEQ.out
            rw [← e]; exact List.mem_of_getElem? HY.out
          go_wp2_with fail
          go_ret
          exact ⟨rfl, HF.out⟩
    · obtain rfl : k = n := by omega
      have HF := Lib.hid (HB0.out.trans (HB.out.mono HB0.out.size))
      obtain rfl : ans = false := by
        rw [← HA.out]
        refine decide_eq_false fun e => ?_
        obtain ⟨j, hj, e⟩ := List.getElem_of_mem e
        exact HE.out j z (by rw [← HN.out]; exact hj) (by rw [List.getElem?_eq_getElem hj, e]) rfl
      go_wp2
      go_ret
      exact ⟨rfl, HF.out⟩

end Go.Proofs.Ytjmggphnngffjaa

/- The law PutTrue: how things lie. -/
namespace Go.Proofs.Ytjmggphnngffjaa
open Go.RowKit Go.Shelf

/-- how the numbers, the list and what was seen lie -/
structure PT (w : World) (B : Nat) (vv lv sv : Value) (row : List Int) (L S : List Zn) (W : World) : Prop where
  v : W.ownsRow w.heap.size 2 1 vv row.length (ints row)
  l : ZonesAt W w.heap.size lv L
  lB : ∀ k, lv.ownBlock = some k → k < B
  s : ZonesAt W B sv S
  low : Below w.heap.size w W
  hB : w.heap.size ≤ B
  hs : B ≤ W.heap.size

theorem PT.below {w W W' : World} {B : Nat} {vv lv sv : Value} {row : List Int} {L S : List Zn} (h : PT w B vv lv sv row L S W) (hb : Below W.heap.size W W') : PT w B vv lv sv row L S W' :=
  ⟨owns_below h.v hb, h.l.below hb, h.lB, h.s.below hb, h.low.trans (hb.mono h.low.size), h.hB, Nat.le_trans h.hs hb.size⟩

theorem ZonesAt.other {W W' : World} {base : Nat} {v : Value} {zs : List Zn} {row : Option Nat} (h : ZonesAt W base v zs) (hg : W.grownBy W' row) (hr : ∀ k, row = some k → ∀ cs t f, W.heap[k]? = some (.cells cs t f) → t ≠ 63 ∧ t ≠ 3) (hv : v.ownBlock = none ∨ v.ownBlock ≠ row) : ZonesAt W' base v zs := by
  obtain ⟨ps, hl, hrw, hz⟩ := h
  have key : ∀ {e : TypeId} {sz n : Nat} {u : Value} {xs : List Value}, W.ownsRow base e sz u n xs → (e = 63 ∨ e = 3) → W'.ownsRow base e sz u n xs := by
    intro e sz n u xs hu he
    refine hu.kept hg ?_
    rcases hu.2 with ⟨rfl, _⟩ | ⟨g, cap, cur, rfl, _, hgg, _⟩
    · exact .inl rfl
    · refine .inr fun e' => ?_
      have hk := hr g e'.symm _ _ _ hgg
      rcases he with rfl | rfl
      · exact hk.1 rfl
      · exact hk.2 rfl
  exact ⟨ps, hl, hrw.kept hg hv, fun i p z h1 h2 => ⟨key (hz i p z h1 h2).1 (.inl rfl), key (hz i p z h1 h2).2 (.inr rfl)⟩⟩

theorem row_block {W : World} {base n sz : Nat} {e : TypeId} {v : Value} {xs : List Value} (h : W.ownsRow base e sz v n xs) : ∀ k, v.ownBlock = some k → ∀ cs t f, W.heap[k]? = some (.cells cs t f) → t = e := by
  intro k hk cs t f hh
  rcases h.2 with ⟨rfl, _⟩ | ⟨g, cap, cur, rfl, _, hgg, _⟩
  · simp [Value.ownBlock] at hk
  · have e2 : g = k := by simpa [Value.ownBlock] using hk
    subst e2
    rw [hgg] at hh
    cases hh; rfl

theorem rows_apart {W : World} {b1 b2 n1 n2 s1 s2 : Nat} {e1 e2 : TypeId} {v1 v2 : Value} {x1 x2 : List Value} (h1 : W.ownsRow b1 e1 s1 v1 n1 x1) (h2 : W.ownsRow b2 e2 s2 v2 n2 x2) (he : e1 ≠ e2) : v1.ownBlock = none ∨ v1.ownBlock ≠ v2.ownBlock := by
  rcases h1.2 with ⟨rfl, _⟩ | ⟨g, cap, cur, rfl, _, hgg, _⟩
  · exact .inl rfl
  · refine .inr fun e => ?_
    exact he (row_block h2 g e.symm _ _ _ hgg)

/-- a number set -/
theorem PT.set {w W : World} {B g n cap : Nat} {lv sv : Value} {row : List Int} {L S : List Zn} (h : PT w B (.slice (some ⟨g, 0, none⟩) n cap) lv sv row L S W) (a : Nat) (x : Int) : PT w B (.slice (some ⟨g, 0, none⟩) n cap) lv sv (row.set a x) L S (W.setCell ⟨g, a, none⟩ (.int .i64 x)) := by
  have hv := h.v
  obtain ⟨ad, c, e⟩ := owns_len hv
  simp only [Value.slice.injEq] at e
  obtain ⟨-, rfl, -⟩ := e
  obtain ⟨s1, s2⟩ := hv.stored a (.int .i64 x)
  have hgb : w.heap.size ≤ g := (hv.lt g rfl).1
  have hty : ∀ k, some g = some k → ∀ cs t f, W.heap[k]? = some (.cells cs t f) → t ≠ 63 ∧ t ≠ 3 := by
    intro k hk cs t f hh
    cases hk
    have := row_block hv g rfl _ _ _ hh
    subst this
    exact ⟨by decide, by decide⟩
  have ap : ∀ {base : Nat} {v : Value} {zs : List Zn}, ZonesAt W base v zs → v.ownBlock = none ∨ v.ownBlock ≠ some g := by
    rintro base v zs ⟨ps, _, hr, _⟩
    exact rows_apart hr hv (by decide)
  refine ⟨?_, h.l.other s2 hty (ap h.l), h.lB, h.s.other s2 hty (ap h.s), h.low.setCell hgb _, h.hB, by simpa [World.setCell] using h.hs⟩
  have e : ints (row.set a x) = (ints row).set a (.int .i64 x) := by simp [ints, List.map_set]
  rw [List.length_set, e]
  exact s1

/-- a zone more was seen -/
theorem PT.app {w W : World} {B b : Nat} {vv lv sv c1 c2 : Value} {row : List Int} {L S : List Zn} {z : Zn} (h : PT w B vv lv sv row L S W) (hz : ZoneAt W b c1 c2 z.1 z.2) (hb : B ≤ b) (hl : S.length ≤ 100000) (ty : TypeId) :
    ∃ ad cap w', (Builtin.append_ #[41, 41] ty #[sv, .slice (some ⟨W.heap.size, 0, none⟩) 1 1]).run Try.prog (W.alloc (.cells #[c1, c2] 45)) = .ok (.slice ad (S.length + 1) cap) w' ∧ PT w B vv lv (.slice ad (S.length + 1) cap) row L (S ++ [z]) w' ∧
      ZoneAt w' b c1 c2 z.1 z.2 ∧ ∀ q u1 u2, Box2 W q u1 u2 → sv.ownBlock ≠ some q → Box2 w' q u1 u2 := by
  have hba : Below W.heap.size W (W.alloc (.cells #[c1, c2] 45)) := (Below.refl _ W).alloc (Nat.le_refl _) _
  have ha := h.below hba
  have hz2 := hz.below hba
  obtain ⟨ps, hpl, hr, hzz⟩ := ha.s
  have o1 : c1.oneCell' = true := owns_one2 hz.1
  have o2 : c2.oneCell' = true := owns_one1 hz.2
  have hrd : RdK (W.alloc (.cells #[c1, c2] 45)) 2 (.slice (some ⟨W.heap.size, 0, none⟩) 1 1) 1 [c1, c2] := by
    refine ⟨_, _, rfl, rfl, .inr ⟨W.heap.size, 0, rfl, by simp, fun t x hx => ?_⟩⟩
    rw [World.cell?_alloc_at _ _ _ _ (by simp)]
    simpa using hx
  obtain ⟨v', w', hrun, ho, hg⟩ := appK_run (P := Try.prog) _ 41 ty 45 (.agg #[.slice none 0 0, .slice none 0 0]) 2 48 B Try.underlying41 info_zone rfl (by decide) (by decide) sv S.length (zcells ps) hr _ 1 [c1, c2] hrd (by simp [o1, o2]) (by omega) ha.hs
  obtain ⟨ad, cap, hv⟩ := owns_len ho
  subst hv
  have hlt := hr.lt
  have hty : ∀ k, sv.ownBlock = some k → ∀ cs t f, (W.alloc (.cells #[c1, c2] 45)).heap[k]? = some (.cells cs t f) → t ≠ 63 ∧ t ≠ 3 := by
    intro k hk cs t f hh
    have := row_block hr k hk _ _ _ hh
    subst this
    exact ⟨by decide, by decide⟩
  have hlv : lv.ownBlock = none ∨ lv.ownBlock ≠ sv.ownBlock := by
    cases e : lv.ownBlock with
    | none => exact .inl rfl
    | some k =>
      refine .inr fun e' => ?_
      have := h.lB k e
      have := (hlt k e'.symm).1
      omega
  refine ⟨ad, cap, w', hrun, ⟨owns_beside hr ha.v (by decide) hg, ha.l.other hg hty hlv, h.lB, ZonesAt.app hpl hr hzz ⟨owns_mono hz2.1 hb, owns_mono hz2.2 hb⟩ ho hg, ha.low.grown hg ha.low.size (fun k hk => by have := (hlt k hk).1; have := h.hB; omega), h.hB, Nat.le_trans ha.hs hg.size⟩, ?_, ?_⟩
  · exact hz2.grown hr hg
  · intro q u1 u2 hq hne
    exact (hq.alloc _).kept hg hne

end Go.Proofs.Ytjmggphnngffjaa

/- The law PutTrue: plain facts. -/
namespace Go.Proofs.Ytjmggphnngffjaa
open Go.RowKit Go.Shelf

theorem nodup_len {α : Type} [DecidableEq α] {S L : List α} (h1 : S.Nodup) (h2 : L.Nodup) (h3 : ∀ z ∈ S, z ∈ L) (h4 : ∀ z ∈ L, z ∈ S) : S.length = L.length :=
  ((List.perm_ext_iff_of_nodup h1 h2).2 fun z => ⟨h3 z, h4 z⟩).length_eq

theorem oth_len (vals consts : List Int) (a : Nat) : (othZ vals consts a).length ≤ consts.length + vals.length := by
  unfold othZ
  have h1 := sortS_len (consts ++ selZ vals (inZ vals.length [(a : Int)]) vals.length)
  have h2 := selZ_len vals (inZ vals.length [(a : Int)]) vals.length
  rw [List.length_append] at h1
  omega
theorem som_len (vals consts : List Int) (a : Nat) (r : Int) : (somZ vals consts a r).1.length ≤ consts.length + vals.length ∧ (somZ vals consts a r).2.length ≤ consts.length + vals.length := by
  have := oth_len vals consts a
  unfold somZ zoneZ
  refine ⟨by rw [List.length_map]; exact this, ?_⟩
  rw [gapsZ_len]; omega
theorem all_len (vals consts : List Int) (a : Nat) (r x : Int) : (allX vals consts a r x).1.length ≤ consts.length + vals.length ∧ (allX vals consts a r x).2.length ≤ consts.length + vals.length := by
  have h1 := sortS_len (vals.set a x ++ consts)
  rw [List.length_append, List.length_set] at h1
  unfold allX zoneZ
  refine ⟨by rw [List.length_map]; omega, ?_⟩
  rw [gapsZ_len]; omega
theorem mem_oth_bound (vals consts : List Int) (a : Nat) (l h : Int) (hb : ∀ x ∈ consts ++ vals, l ≤ x ∧ x ≤ h) : ∀ x ∈ othZ vals consts a, l ≤ x ∧ x ≤ h := by
  intro x hx
  rcases (mem_oth _ _ _ _).1 hx with h1 | ⟨k, h1, _, rfl⟩
  · exact hb x (List.mem_append_left _ h1)
  · refine hb _ (List.mem_append_right _ ?_)
    rw [List.getD_eq_getElem?_getD, List.getElem?_eq_getElem h1]
    exact List.getElem_mem _
theorem set_bound (vals consts : List Int) (a : Nat) (x : Int) (hb : ∀ x ∈ consts ++ vals, -100 ≤ x ∧ x ≤ 100) (hx : -1000 ≤ x ∧ x ≤ 1000) : ∀ y ∈ vals.set a x ++ consts, -9223372036854775808 ≤ y ∧ y ≤ 9223372036854775807 := by
  intro y hy
  rcases List.mem_append.1 hy with h | h
  · rcases List.mem_or_eq_of_mem_set h with h | rfl
    · have := hb y (List.mem_append_right _ h); omega
    · omega
  · have := hb y (List.mem_append_left _ h); omega
theorem kap_step (r : Int) (h1 : 1 ≤ r) (h2 : r ≤ 4) : kap (r - 1) ≤ kap r ∧ kap r ≤ 31 := by
  have hc : r = 1 ∨ r = 2 ∨ r = 3 ∨ r = 4 := by omega
  rcases hc with rfl | rfl | rfl | rfl <;> decide

end Go.Proofs.Ytjmggphnngffjaa

/- The law PutTrue. -/
namespace Go.Proofs.Ytjmggphnngffjaa
open Go.RowKit Go.Shelf

set_option maxRecDepth 100000 in
set_option maxHeartbeats 4000000 in
theorem putTrue_any (v0 v1 : Value) (vals consts : List Int) (a r : Int) (w : World) (h0 : Reads w v0 (ints vals)) (h1 : Reads w v1 (ints consts)) :
    Calls Try.prog 4 #[v0, v1, .agg #[.int .i64 a, .int .i64 r]] w fun e w' => e = .returned (.bool true) ∧ Below w.heap.size w w' := by
  obtain ⟨ad0, cap0, e0, -⟩ := h0.len
  obtain ⟨ad1, cap1, e1, -⟩ := h1.len
  rw [ints_len] at e0 e1
  obtain ⟨n0, hn0⟩ : ∃ n, vals.length = n := ⟨_, rfl⟩
  obtain ⟨n1, hn1⟩ : ∃ n, consts.length = n := ⟨_, rfl⟩
  rw [hn0] at e0; rw [hn1] at e1
  subst e0; subst e1
  have hal0 := (Below.refl w.heap.size w).alloc (Nat.le_refl _) (.cells #[.int .i64 a, .int .i64 r] 36)
  have HN0 := Lib.hid hn0; have HN1 := Lib.hid hn1
  have H0 := Lib.hid h0; have H1 := Lib.hid h1
  have HA0 := Lib.hid hal0
  clear hn0 hn1 h0 h1 hal0
  have hcase : (5 < n0) ∨ (n0 ≤ 5 ∧ 5 < n1) ∨ (n0 ≤ 5 ∧ n1 ≤ 5 ∧ a < 0) ∨ (n0 ≤ 5 ∧ n1 ≤ 5 ∧ 0 ≤ a ∧ (n0 : Int) ≤ a) ∨ (n0 ≤ 5 ∧ n1 ≤ 5 ∧ 0 ≤ a ∧ a < n0 ∧ r < 1) ∨ (n0 ≤ 5 ∧ n1 ≤ 5 ∧ 0 ≤ a ∧ a < n0 ∧ 1 ≤ r ∧ 4 < r) ∨ (n0 ≤ 5 ∧ n1 ≤ 5 ∧ 0 ≤ a ∧ a < n0 ∧ 1 ≤ r ∧ r ≤ 4) := by omega
  rcases hcase with k0 | ⟨k0, k1⟩ | ⟨k0, k1, k2⟩ | ⟨k0, k1, k2, k3⟩ | ⟨k0, k1, k2, k3, k4⟩ | ⟨k0, k1, k2, k3, k4, k5⟩ | ⟨k0, k1, k2, k3, k4, k5⟩
  · go_enter Try.func4, Try.ntmps4
    go_wp2
    go_quiet (fail)
    obtain ⟨wd, hwd⟩ : ∃ W, (w.alloc (.cells #[.int .i64 a, .int .i64 r] 36)).drewN nq = W := ⟨_, rfl⟩
    have HBD := Lib.hid (show Below w.heap.size w wd by rw [← hwd]; exact below_drewN HA0.out nq)
    rw [hwd]
    clear hwd
    go_wp2_with fail
    refine (awake24 _).mono ?_
    rintro e w7 ⟨rfl, hb7⟩
    have HF := Lib.hid (HBD.out.trans (hb7.mono HBD.out.size))
    clear hb7
    go_wp2
    go_ret
    exact ⟨rfl, HF.out⟩
  · go_enter Try.func4, Try.ntmps4
    go_wp2
    go_quiet (fail)
    obtain ⟨wd, hwd⟩ : ∃ W, (w.alloc (.cells #[.int .i64 a, .int .i64 r] 36)).drewN nq = W := ⟨_, rfl⟩
    have HBD := Lib.hid (show Below w.heap.size w wd by rw [← hwd]; exact below_drewN HA0.out nq)
    rw [hwd]
    clear hwd
    go_wp2_with fail
    refine (awake24 _).mono ?_
    rintro e w7 ⟨rfl, hb7⟩
    have HF := Lib.hid (HBD.out.trans (hb7.mono HBD.out.size))
    clear hb7
    go_wp2
    go_ret
    exact ⟨rfl, HF.out⟩
  · go_enter Try.func4, Try.ntmps4
    go_wp2
    go_quiet (fail)
    obtain ⟨wd, hwd⟩ : ∃ W, (w.alloc (.cells #[.int .i64 a, .int .i64 r] 36)).drewN nq = W := ⟨_, rfl⟩
    have HBD := Lib.hid (show Below w.heap.size w wd by rw [← hwd]; exact below_drewN HA0.out nq)
    rw [hwd]
    clear hwd
    go_wp2_with fail
    refine (awake24 _).mono ?_
    rintro e w7 ⟨rfl, hb7⟩
    have HF := Lib.hid (HBD.out.trans (hb7.mono HBD.out.size))
    clear hb7
    go_wp2
    go_ret
    exact ⟨rfl, HF.out⟩
  · go_enter Try.func4, Try.ntmps4
    go_wp2
    go_quiet (fail)
    obtain ⟨wd, hwd⟩ : ∃ W, (w.alloc (.cells #[.int .i64 a, .int .i64 r] 36)).drewN nq = W := ⟨_, rfl⟩
    have HBD := Lib.hid (show Below w.heap.size w wd by rw [← hwd]; exact below_drewN HA0.out nq)
    rw [hwd]
    clear hwd
    go_wp2_with fail
    refine (awake24 _).mono ?_
    rintro e w7 ⟨rfl, hb7⟩
    have HF := Lib.hid (HBD.out.trans (hb7.mono HBD.out.size))
    clear hb7
    go_wp2
    go_ret
    exact ⟨rfl, HF.out⟩
  · go_enter Try.func4, Try.ntmps4
    go_wp2
    go_quiet (fail)
    obtain ⟨wd, hwd⟩ : ∃ W, (w.alloc (.cells #[.int .i64 a, .int .i64 r] 36)).drewN nq = W := ⟨_, rfl⟩
    have HBD := Lib.hid (show Below w.heap.size w wd by rw [← hwd]; exact below_drewN HA0.out nq)
    rw [hwd]
    clear hwd
    go_wp2_with fail
    refine (awake24 _).mono ?_
    rintro e w7 ⟨rfl, hb7⟩
    have HF := Lib.hid (HBD.out.trans (hb7.mono HBD.out.size))
    clear hb7
    go_wp2
    go_ret
    exact ⟨rfl, HF.out⟩
  · go_enter Try.func4, Try.ntmps4
    go_wp2
    go_quiet (fail)
    obtain ⟨wd, hwd⟩ : ∃ W, (w.alloc (.cells #[.int .i64 a, .int .i64 r] 36)).drewN nq = W := ⟨_, rfl⟩
    have HBD := Lib.hid (show Below w.heap.size w wd by rw [← hwd]; exact below_drewN HA0.out nq)
    rw [hwd]
    clear hwd
    go_wp2_with fail
    refine (awake24 _).mono ?_
    rintro e w7 ⟨rfl, hb7⟩
    have HF := Lib.hid (HBD.out.trans (hb7.mono HBD.out.size))
    clear hb7
    go_wp2
    go_ret
    exact ⟨rfl, HF.out⟩
  · obtain ⟨a, rfl⟩ := Int.eq_ofNat_of_zero_le k2
    go_enter Try.func4, Try.ntmps4
    go_wp2
    go_quiet (fail)
    obtain ⟨wd, hwd⟩ : ∃ W, (w.alloc (.cells #[.int .i64 a, .int .i64 r] 36)).drewN nq = W := ⟨_, rfl⟩
    have hbd : Below w.heap.size w wd := by rw [← hwd]; exact below_drewN HA0.out nq
    have HBD := Lib.hid hbd
    rw [hwd]
    clear hwd HA0
    have hba := hbd.alloc hbd.size (.cells #[.int .i64 a] 3)
    have HR := Lib.hid (rin_any n0 (.slice (some ⟨wd.heap.size, 0, none⟩) 1 1) [(a : Int)] (wd.alloc (.cells #[.int .i64 a] 3)) (Reads.lit wd #[.int .i64 a] 3 1 1 rfl (by decide)) (by omega))
    have HBA := Lib.hid hba
    clear hbd hba
    go_wp2_with fail
    refine HR.out.mono ?_
    rintro e w1 ⟨vi, rfl, oi, hb1⟩
    have hb1' := HBA.out.trans (hb1.mono HBA.out.size)
    have HI := Lib.hid (owns_mono oi HBA.out.size)
    obtain ⟨iad, icap, hvi⟩ := owns_len oi
    subst hvi
    have HB1 := Lib.hid hb1'
    clear HR HBA oi hb1 hb1'
    have hlen0 : (ints vals).length = n0 := by rw [ints_len]; exact HN0.out
    have hlen1 : (ints consts).length = n1 := by rw [ints_len]; exact HN1.out
    have hbx : Below w.heap.size w (w1.alloc (.cells #[] 2)) := HB1.out.alloc HB1.out.size _
    have own0 : (w1.alloc (.cells #[] 2)).ownsRow w1.heap.size 2 1 (.slice (some ⟨w1.heap.size, 0, none⟩) 0 0) 0 [] := World.ownsRow_lit w1 #[] 0 (Nat.le_refl _) (Nat.zero_le _) rfl
    have hsx : w1.heap.size ≤ (w1.alloc (.cells #[] 2)).heap.size := by simp
    have r0 := H0.out.below (Nat.le_refl _) hbx
    have HBX := Lib.hid hbx
    clear hbx
    go_wp2_with (first
      | (at_builtin; refine appR _ rfl _ _ 35 rfl w1.heap.size 2 (.int .i64 0) 8 Try.underlying35 info_int64 rfl (by decide) _ 0 [] rfl (by exact own0) _ _ rfl r0 (ints_one _) (by rw [hlen0]; omega) hsx ?_; clear own0 r0 hsx; intro vv w2 hown1 hb2
         have HB2 : Below w.heap.size w w2 := HBX.out.trans (hb2.mono HB1.out.size)
         have HI2 := Lib.hid (owns_below HI.out (((Below.refl _ _).alloc (Nat.le_refl _) _).trans hb2))
         have HBL := Lib.hid HB2
         have own2 : (w2.alloc (.cells #[] 2)).ownsRow w.heap.size 2 1 (.slice (some ⟨w2.heap.size, 0, none⟩) 0 0) 0 [] := World.ownsRow_lit w2 #[] 0 HB2.size (Nat.zero_le _) rfl
         have HBY := HB2.alloc HB2.size (.cells #[] 2)
         have ry := H1.out.below (Nat.le_refl _) HBY
         have HOV := Lib.hid (show w2.ownsRow w.heap.size 2 1 vv n0 (ints vals) from owns_mono (by simpa [hlen0] using hown1 : w2.ownsRow w1.heap.size 2 1 vv n0 (ints vals)) HB1.out.size)
         have hs2 := HB2.size
         obtain ⟨vad, vcap, hvv⟩ := owns_len HOV.out
         subst hvv
         clear hown1 hb2 HB2 HBX HI HB1)
      | (at_builtin; refine appR _ rfl _ _ 35 rfl w2.heap.size 2 (.int .i64 0) 8 Try.underlying35 info_int64 rfl (by decide) _ 0 [] rfl (by exact World.ownsRow_lit w2 #[] 0 (Nat.le_refl _) (Nat.zero_le _) rfl) _ _ rfl ry (ints_one _) (by rw [hlen1]; omega) (by simp) ?_; clear own2 ry; intro va w3 hown3 hb3
         have hb3' : Below w2.heap.size w2 w3 := ((Below.refl _ _).alloc (Nat.le_refl _) _).trans hb3
         have HB3 := Lib.hid hb3'
         have rz := H0.out.below (Nat.le_refl _) (HBY.trans (hb3.mono hs2))
         have hsz := hb3'.size
         clear hb3 hb3' HBY)
      | (at_builtin; refine appR _ rfl _ _ 35 rfl w2.heap.size 2 (.int .i64 0) 8 Try.underlying35 info_int64 rfl (by decide) _ _ _ rfl (by exact hown3) _ _ rfl rz (ints_one _) (by rw [hlen0, hlen1]; omega) hsz ?_; clear hown3 rz; intro vb w4 hown4 hb4
         have HB4 := Lib.hid (HB3.out.trans hb4)
         have HOA := Lib.hid (show w4.ownsRow w2.heap.size 2 1 vb (n1 + n0) (ints (consts ++ vals)) by
           rw [show ints (consts ++ vals) = ints consts ++ ints vals by simp [ints]]
           rw [hlen0, hlen1, Nat.zero_add, List.nil_append] at hown4; exact hown4)
         obtain ⟨bad, bcap, hvb⟩ := owns_len HOA.out
         subst hvb
         clear hown4 hb4 HB3 hsz)
      | fail)
    clear hlen0 hlen1
    obtain ⟨N, hN⟩ : ∃ N, n1 + n0 = N := ⟨_, rfl⟩
    have HN := Lib.hid (show (consts ++ vals).length = N by rw [List.length_append, HN0.out, HN1.out, hN])
    rw [hN] at HOA
    have hN10 : N ≤ 10 := by omega
    simp only [hN]
    clear hN
    go_loopw [11, 12, 14] (fun lo hi i wr => ∃ (k : Nat) (l h : Int), lo = .int .i64 l ∧ hi = .int .i64 h ∧ i = .int .i64 k ∧ k ≤ N ∧ -100 ≤ l ∧ l ≤ 0 ∧ 0 ≤ h ∧ h ≤ 100 ∧ Hid (∀ j x, j < k → (consts ++ vals)[j]? = some x → l ≤ x ∧ x ≤ h) ∧ Hid (Below w4.heap.size w4 wr)) (fun _ _ i _ => N - (intOf i).toNat)
    case atStart => exact ⟨0, 0, 0, rfl, rfl, rfl, Nat.zero_le _, by omega, by omega, by omega, by omega, fun j x h => by omega, Below.refl _ _⟩
    case round =>
      obtain ⟨k, l, h, rfl, rfl, rfl, hk, hl1, hl2, hh1, hh2, HB, HW⟩ := hrel
      by_cases hlt : k < N
      · have p1 : (k : Int) < (N : Int) := by omega
        obtain ⟨x, hx⟩ : ∃ x, (consts ++ vals)[k]? = some x := ⟨_, List.getElem?_eq_getElem (by rw [HN.out]; exact hlt)⟩
        have y1 := owns_below HOA.out HW.out
        obtain ⟨g, q1, t1⟩ := owns_slice y1 (by omega)
        cases t1
        have d1 : wr.cell? ⟨g, k, none⟩ = some (.int .i64 x) := by rw [y1.cellAt _ (by omega)]; unfold ints; rw [List.getElem?_map, hx]; rfl
        have HX := Lib.hid hx
        have HLW := Lib.hid (show Below w.heap.size w wr from HBL.out.trans ((HB4.out.trans (HW.out.mono HB4.out.size)).mono hs2))
        clear y1 hx
        by_cases hc1 : x < -100
        · go_wp2_with fail
          refine (awake24 _).mono ?_
          rintro e w7 ⟨rfl, hb7⟩
          have HF := Lib.hid (HLW.out.trans (hb7.mono HLW.out.size))
          clear hb7
          go_wp2
          go_ret
          exact ⟨rfl, HF.out⟩
        by_cases hc2 : 100 < x
        · go_wp2_with fail
          refine (awake24 _).mono ?_
          rintro e w7 ⟨rfl, hb7⟩
          have HF := Lib.hid (HLW.out.trans (hb7.mono HLW.out.size))
          clear hb7
          go_wp2
          go_ret
          exact ⟨rfl, HF.out⟩
        · have HB' : Hid (∀ j y, j < k + 1 → (consts ++ vals)[j]? = some y → (if x < l then x else l) ≤ y ∧ y ≤ (if h < x then x else h)) := Lib.hid fun j y hj hy => by
            by_cases hjk : j < k
            · have := HB.out j y hjk hy
              constructor <;> split <;> omega
            · obtain rfl : j = k := by omega
              have e := HX.out.symm.trans hy
              cases e
              constructor <;> split <;> omega
          clear HB HX HLW
          go_upto_region 13 with fail
          go_quiet (fail)
          go_wp2_with fail
          go_roundw
          case rel => exact ⟨k + 1, _, _, rfl, rfl, by go_num, by omega, by split <;> omega, by split <;> omega, by split <;> omega, by split <;> omega, HB', Lib.hid (below_drewN HW.out _)⟩
          case measure => simp [intOf]; omega
      · obtain rfl : k = N := by omega
        have hBD : ∀ x ∈ consts ++ vals, l ≤ x ∧ x ≤ h := fun x hx => by
          obtain ⟨j, hj, e⟩ := List.getElem_of_mem hx
          exact HB.out j x (by rw [← HN.out]; exact hj) (by rw [List.getElem?_eq_getElem hj, e])
        have hW2 : Below w2.heap.size w2 wr := HB4.out.trans (HW.out.mono HB4.out.size)
        have hlow : Below w.heap.size w wr := HBL.out.trans (hW2.mono hs2)
        have hBD2 : ∀ x ∈ consts ++ vals, -100 ≤ x ∧ x ≤ 100 := fun x hx => by have := hBD x hx; omega
        have hsome := rsome_any (.slice ad0 n0 cap0) (.slice iad n0 icap) (.slice ad1 n1 cap1) vals (inZ vals.length [(a : Int)]) consts r wr (H0.out.below (Nat.le_refl _) hlow) (by rw [HN0.out]; exact Reads.of_owns (owns_below HI2.out hW2)) (H1.out.below (Nat.le_refl _) hlow) (inZ_len _ _) (by rw [HN0.out]; omega) (by rw [HN1.out]; omega) (fun x hx => by
          have := hBD2 x (by rcases List.mem_append.1 hx with h | h <;> simp [h]); omega)
        change Calls _ _ _ _ (fun e w' => ∃ u1 u2, e = .returned (.agg #[u1, u2]) ∧ ZoneAt w' wr.heap.size u1 u2 (somZ vals consts a r).1 (somZ vals consts a r).2 ∧ Below wr.heap.size wr w') at hsome
        have HSO := Lib.hid hsome
        have HOVr := Lib.hid (owns_below HOV.out hW2)
        have HLOW := Lib.hid hlow
        have HBD1 := Lib.hid hBD; have HBD2 := Lib.hid hBD2
        clear hBD hBD2 hW2 hlow hsome HB HW HOA HOV HI2 HB4 HBL hs2
        go_wp2_with fail
        refine (rcap_any r _).mono ?_
        rintro e w' ⟨rfl, rfl⟩
        obtain ⟨q, hq⟩ : ∃ q, kap r = q := ⟨_, rfl⟩
        have hks := kap_step r k4 k5
        rw [hq] at hks ⊢
        have hq31 := hks.2
        have HQ := Lib.hid hq; have HK := Lib.hid hks
        clear hq hks
        go_wp2_with fail
        refine HSO.out.mono ?_
        rintro e w5 ⟨u1, u2, rfl, hz5, hb5⟩
        have hsl := som_len vals consts a r
        rw [HN0.out, HN1.out] at hsl
        have hput := putZ_any (w := w5) (a := (a : Int)) (r := r) (ZoneIn.of_at hz5) (by omega) (by omega)
        obtain ⟨L, hL⟩ : ∃ L, putL (somZ vals consts a r).1 (somZ vals consts a r).2 a r = L := ⟨_, rfl⟩
        have hLs := putL_small (somZ vals consts a r).1 (somZ vals consts a r).2 a r (by omega) (by omega)
        have hLl := putL_len (somZ vals consts a r).1 (somZ vals consts a r).2 a r (by omega) (by omega)
        have hLm := true_mem vals consts a r (by rw [HN0.out]; omega) (by rw [HN0.out]; omega) k4 (by omega)
        have hLc := true_comes vals consts a r l h (by rw [HN0.out]; omega) (by rw [HN0.out]; omega) k4 (by omega) (by omega) (mem_oth_bound vals consts a l h HBD1.out)
        have hLo := true_once vals consts a r (by rw [HN0.out]; omega) (by rw [HN0.out]; omega) k4
        rw [hL] at hput hLs hLl hLm hLc hLo
        obtain ⟨xa, xc, hx1⟩ := owns_len hz5.1
        obtain ⟨ya, yc, hy1⟩ := owns_len hz5.2
        subst hx1; subst hy1
        have HPUT := Lib.hid hput; have HLs := Lib.hid hLs; have HLm := Lib.hid hLm; have HLc := Lib.hid hLc; have HLo := Lib.hid hLo
        have HB5 := Lib.hid (HLOW.out.trans (hb5.mono HLOW.out.size))
        have HOV5 := Lib.hid (owns_below HOVr.out hb5)
        clear hput hLs hLm hLc hLo hL hz5 hb5 HLOW HOVr hsl HSO
        go_wp2_with fail
        refine HPUT.out.mono ?_
        rintro e w6 ⟨lv, rfl, hl6, hb6⟩
        have hpt : PT w w6.heap.size (.slice vad n0 vcap) lv (.slice none 0 0) vals L [] w6 := by
          refine ⟨?_, hl6.mono HB5.out.size, ?_, ZonesAt.nil _ _, HB5.out.trans (hb6.mono HB5.out.size), (HB5.out.trans (hb6.mono HB5.out.size)).size, Nat.le_refl _⟩
          · rw [HN0.out]; exact owns_below HOV5.out hb6
          · obtain ⟨ps, _, hr, _⟩ := hl6
            exact fun k hk => (hr.lt k hk).2
        obtain ⟨g, vcap', t1⟩ := owns_slice (show w6.ownsRow w.heap.size 2 1 (.slice vad n0 vcap) n0 (ints vals) from by have := hpt.v; rw [HN0.out] at this; exact this) (by omega)
        cases t1
        obtain ⟨lad, lcap, hlv⟩ := hpt.l.len
        subst hlv
        have HPT := Lib.hid hpt
        obtain ⟨M, hM⟩ : ∃ M, L.length = M := ⟨_, rfl⟩
        have HM := Lib.hid hM
        rw [hM] at HPT hLl ⊢
        obtain ⟨T, hT⟩ : ∃ T : Nat, (T : Int) = h + ((q : Int) + 2) - (l - ((q : Int) + 2)) + 1 := ⟨(h + ((q : Int) + 2) - (l - ((q : Int) + 2)) + 1).toNat, by omega⟩
        have hwr : IntKind.i64.wrap (r - 1) = r - 1 := by rw [IntKind.wrap_i64]; omega
        have ha0 : a < n0 := by omega
        clear hpt hl6 hb6 hM HB5 HOV5 HPUT
        go_wp2_with fail
        go_loopw [17, 18, 19] (fun n sv x wr => ∃ (k : Nat) (S : List Zn) (row : List Int), n = .int .i64 S.length ∧ x = .int .i64 (l - ((q : Int) + 2) + k) ∧ k ≤ T ∧ S.length ≤ k ∧ Hid (PT w w6.heap.size (.slice (some ⟨g, 0, none⟩) n0 vcap) (.slice lad M lcap) sv row L S wr) ∧ Hid (row.length = n0 ∧ ∀ y, row.set a y = vals.set a y) ∧ Hid S.Nodup ∧ Hid (∀ z ∈ S, z ∈ L) ∧ Hid (∀ j : Nat, j < k → allX vals consts a r (l - ((q : Int) + 2) + j) ∈ S)) (fun _ _ x _ => T - (intOf x - (l - ((q : Int) + 2))).toNat)
        case atStart => exact ⟨0, [], vals, rfl, int_eq (by omega), Nat.zero_le _, Nat.le_refl _, HPT.out, ⟨HN0.out, fun _ => rfl⟩, List.nodup_nil, fun z hz => (by cases hz), fun j hj => (by omega)⟩
        case round =>
          clear HPT
          obtain ⟨k, S, row, rfl, rfl, hk, hSk, HP, HR, HD, HSL, HA⟩ := hrel
          obtain ⟨sad, scap, hsv⟩ := HP.out.s.len
          subst hsv
          by_cases hlt : k < T
          · obtain ⟨x, hx⟩ : ∃ x, l - ((q : Int) + 2) + (k : Int) = x := ⟨_, rfl⟩
            have hx1 : x ≤ h + ((q : Int) + 2) := by omega
            have hxb : -1000 ≤ x ∧ x ≤ 1000 := by omega
            have HXX : Hid (x + 1 = l - ((q : Int) + 2) + ((k + 1 : Nat) : Int)) := by unfold Hid; omega
            have HXK := Lib.hid hx
            rw [hx]
            have hv0 := HP.out.v
            rw [HR.out.1] at hv0
            have hfz := hv0.frozenAt a
            obtain ⟨y, hy⟩ : ∃ y, row[a]? = some y := ⟨_, List.getElem?_eq_getElem (by rw [HR.out.1]; exact ha0)⟩
            have hcy : wr.cell? ⟨g, a, none⟩ = some (.int .i64 y) := by rw [hv0.cellAt a (by omega)]; unfold ints; rw [List.getElem?_map, hy]; rfl
            have hp1 := HP.out.set a x
            rw [HR.out.2 x] at hp1
            have hof := rof_any (.slice (some ⟨g, 0, none⟩) n0 vcap) (.slice ad1 n1 cap1) (vals.set a x) consts (r - 1) (wr.setCell ⟨g, a, none⟩ (.int .i64 x)) (Reads.of_owns (by have := hp1.v; rw [List.length_set, HN0.out] at this; exact this)) (H1.out.below (Nat.le_refl _) hp1.low) (by rw [List.length_set, HN0.out]; omega) (by rw [HN1.out]; omega) (set_bound vals consts a x HBD2.out hxb)
            rw [List.length_set] at hof
            change Calls _ _ _ _ (fun e w' => ∃ u1 u2, e = .returned (.agg #[u1, u2]) ∧ ZoneAt w' (wr.setCell ⟨g, a, none⟩ (.int .i64 x)).heap.size u1 u2 (allX vals consts a r x).1 (allX vals consts a r x).2 ∧ Below (wr.setCell ⟨g, a, none⟩ (.int .i64 x)).heap.size (wr.setCell ⟨g, a, none⟩ (.int .i64 x)) w') at hof
            obtain ⟨Z, hZ⟩ : ∃ Z, allX vals consts a r x = Z := ⟨_, rfl⟩
            have hZs : SmallZ Z := by
              have := all_len vals consts a r x
              rw [hZ, HN0.out, HN1.out] at this
              exact ⟨by omega, by omega⟩
            rw [hZ] at hof
            have HOF := Lib.hid hof; have HP1 := Lib.hid hp1; have HZ := Lib.hid hZ; have HZs := Lib.hid hZs
            have HSs := Lib.hid (show ∀ z ∈ S, SmallZ z from fun z hz => HLs.out z (HSL.out z hz))
            have hS1 : S.length ≤ 100000 := by omega
            have HS1 := Lib.hid hS1
            have HR' : Hid ((vals.set a x).length = n0 ∧ ∀ y, (vals.set a x).set a y = vals.set a y) := Lib.hid ⟨by rw [List.length_set]; exact HN0.out, fun y => List.set_set ..⟩
            have hZL : Z ∈ L := hZ ▸ HLm.out x
            have HZL := Lib.hid hZL
            clear hv0 hp1 hof hZ hZs hS1 hx hy HR HP hZL
            go_wp2_with fail
            refine HOF.out.mono ?_
            rintro e w7 ⟨u1, u2, rfl, hz7, hb7⟩
            obtain ⟨xa, xc, e1⟩ := owns_len hz7.1
            obtain ⟨ya, yc, e2⟩ := owns_len hz7.2
            subst e1; subst e2
            have hal := (Below.refl w7.heap.size w7).alloc (Nat.le_refl _) (.cells #[.slice xa Z.1.length xc, .slice ya Z.2.length yc] 45)
            have HZ8 := Lib.hid (hz7.below hal)
            have HP8 := Lib.hid ((HP1.out.below hb7).below hal)
            have HX8 := Lib.hid (Box2.new w7 (.slice xa Z.1.length xc) (.slice ya Z.2.length yc))
            have hne : (Value.slice sad S.length scap).ownBlock ≠ some w7.heap.size := fun e => by
              obtain ⟨ps, _, hr, _⟩ := HP1.out.s
              have := (hr.lt _ e).2
              have := hb7.size
              omega
            have HNE := Lib.hid hne
            have HBB := Lib.hid (show w6.heap.size ≤ (wr.setCell ⟨g, a, none⟩ (.int .i64 x)).heap.size from HP1.out.hs)
            clear hz7 hb7 hal hne HOF HP1 hcy hfz
            go_wp2_with fail
            refine (hasZ_any HP8.out.s HZ8.out HSs.out HZs.out HS1.out).mono ?_
            rintro e w9 ⟨rfl, hb9⟩
            by_cases hmem : Z ∈ S
            · rw [decide_eq_true hmem]
              have HP9 := Lib.hid (HP8.out.below hb9)
              have HA' : Hid (∀ j : Nat, j < k + 1 → allX vals consts a r (l - ((q : Int) + 2) + j) ∈ S) := Lib.hid fun j hj => by
                by_cases hjk : j < k
                · exact HA.out j hjk
                · obtain rfl : j = k := by omega
                  rw [HXK.out, HZ.out]; exact hmem
              clear hmem hb9 HP8 HZ8 HX8
              go_wp2_with fail
              go_roundw
              case rel => exact ⟨k + 1, S, _, rfl, int_eq HXX.out, by omega, by omega, HP9, HR', HD, HSL, HA'⟩
              case measure => have := HXK.out; simp [intOf]; omega
            · rw [decide_eq_false hmem]
              have hx9 : Box2 w9 w7.heap.size _ _ := (hb9.block _ HX8.out.lt).trans HX8.out
              have c0 := hx9.c0; have c1 := hx9.c1
              obtain ⟨ad5, cap5, w10, hrun, hp10, hz10, hbx⟩ := (HP8.out.below hb9).app (HZ8.out.below hb9) HBB.out HS1.out 41
              have hx10 := hbx _ _ _ hx9 HNE.out
              have d0 := hx10.c0; have d1 := hx10.c1
              have hl2 : L.length ≤ 100000 := by rw [HM.out]; omega
              have HL2 := Lib.hid hl2
              have HP10 := Lib.hid hp10; have HZ10 := Lib.hid hz10
              have HD' : Hid (S ++ [Z]).Nodup := Lib.hid (List.nodup_append.2 ⟨HD.out, by simp, fun u hu v hv e => by rw [List.mem_singleton] at hv; subst hv; subst e; exact hmem hu⟩)
              have HSL' : Hid (∀ z ∈ S ++ [Z], z ∈ L) := Lib.hid fun z hz => by
                rcases List.mem_append.1 hz with h | h
                · exact HSL.out z h
                · rw [List.mem_singleton] at h; subst h; exact HZL.out
              have HA' : Hid (∀ j : Nat, j < k + 1 → allX vals consts a r (l - ((q : Int) + 2) + j) ∈ S ++ [Z]) := Lib.hid fun j hj => by
                by_cases hjk : j < k
                · exact List.mem_append_left _ (HA.out j hjk)
                · obtain rfl : j = k := by omega
                  rw [HXK.out, HZ.out]; simp
              have HLL : Hid (((S ++ [Z]).length : Int) = (S.length : Int) + 1 ∧ (S ++ [Z]).length ≤ k + 1) := by unfold Hid; simp; omega
              clear hmem hb9 hx9 hp10 hz10 hbx hx10 hl2 HP8 HZ8 HX8 HD HSL HA
              go_wp2_with (first | (at_builtin; refine wpList_append_known _ rfl _ _ _ _ rfl _ _ rfl rfl _ _ hrun ?_; clear hrun c0 c1) | fail)
              refine (hasZ_any HP10.out.l HZ10.out HLs.out HZs.out HL2.out).mono ?_
              rintro e w11 ⟨rfl, hb11⟩
              rw [decide_eq_true HZL.out]
              have HP11 := Lib.hid (HP10.out.below hb11)
              clear hb11 HP10 HZ10 d0 d1
              go_wp2_with fail
              go_roundw
              case rel => exact ⟨k + 1, S ++ [Z], _, int_eq HLL.out.1.symm, int_eq HXX.out, by omega, HLL.out.2, HP11, HR', HD', HSL', HA'⟩
              case measure => have := HXK.out; simp [intOf]; omega
          · obtain rfl : k = T := by omega
            have hx1 : ¬ (l - ((q : Int) + 2) + (k : Int) ≤ h + ((q : Int) + 2)) := by omega
            have hlen : S.length = M := by
              rw [← HM.out]
              refine nodup_len HD.out HLo.out HSL.out fun z hz => ?_
              obtain ⟨x, hxl, hxh, rfl⟩ := HLc.out z hz
              have hkk := HK.out.1
              have := HA.out (x - (l - ((q : Int) + 2))).toNat (by omega)
              rw [show l - ((q : Int) + 2) + (((x - (l - ((q : Int) + 2))).toNat : Nat) : Int) = x by omega] at this
              exact this
            have HLW := Lib.hid HP.out.low
            rw [hlen]
            clear hlen
            go_wp2_with fail
            refine (awake24 _).mono ?_
            rintro e w7 ⟨rfl, hb7⟩
            have HF := Lib.hid (HLW.out.trans (hb7.mono HLW.out.size))
            clear hb7
            go_wp2
            go_ret
            exact ⟨rfl, HF.out⟩

end Go.Proofs.Ytjmggphnngffjaa
