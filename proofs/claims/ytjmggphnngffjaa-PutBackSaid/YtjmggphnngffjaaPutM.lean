/- The law PutPuts. -/
import Derived.Test.YtjmggphnngffjaaPutL
import Derived.Test.YtjmggphnngffjaaZArg
namespace Go.Proofs.Ytjmggphnngffjaa
open Go.RowKit Go.Shelf

theorem ZoneAt.first {W : World} {base : Nat} {c1 c2 : Value} {cl : List (Int × Int)} {gl : List Int} (h : ZoneAt W base c1 c2 cl gl) {k : Nat} {x y : Int} (hk : cl[k]? = some (x, y)) :
    ∃ g cap, c1 = .slice (some ⟨g, 0, none⟩) cl.length cap ∧ g < W.heap.size ∧ W.cell? ⟨g, k * 2, none⟩ = some (.int .i64 x) := by
  have hkl := (List.getElem?_eq_some_iff.1 hk).1
  obtain ⟨g, cap, rfl, _, hg⟩ := owns_shape h.1 (by omega)
  exact ⟨g, cap, rfl, hg, by rw [h.1.cellAt _ (by omega)]; exact (cellsP_get _ _ _ hk).1⟩

set_option maxRecDepth 100000 in
set_option maxHeartbeats 1000000 in
theorem awake24 (w : World) : Calls Try.prog 13 #[] w fun e w' => e = .returned (.bool true) ∧ Below w.heap.size w w' := by
  have hb0 : Below w.heap.size w (w.alloc (.cells #[.int .i64 2, .int .i64 (-1)] 63)) := (Below.refl _ _).alloc (Nat.le_refl _) _
  have hz : ZoneIn (w.alloc (.cells #[.int .i64 2, .int .i64 (-1)] 63)) (.slice (some ⟨w.heap.size, 0, none⟩) 1 1) (.slice none 0 0) [(2, -1)] [] := by
    refine ⟨⟨_, _, rfl, rfl, .inr ⟨w.heap.size, 0, rfl, by simp, fun t x hx => ?_⟩⟩, RdK.zero _ _ _ _⟩
    rw [World.cell?_alloc_at _ _ _ _ (by simp)]
    simpa [cellsP] using hx
  have hp := putZ_any (a := 0) (r := 1) hz (by decide) (by decide)
  rw [awake_L] at hp
  have HP := Lib.hid hp
  have HB0 := Lib.hid hb0
  clear hz hp hb0
  go_enter Try.func13, Try.ntmps13
  go_wp2_with fail
  refine HP.out.mono ?_
  rintro e w1 ⟨v', rfl, hz, hb⟩
  obtain ⟨ad, cap, hv⟩ := hz.len
  subst hv
  obtain ⟨g, c1, c2, rfl, -, d0, d1, z0⟩ := hz.at (k := 0) rfl
  obtain ⟨g', c3, c4, e1, -, d2, d3, z1⟩ := hz.at (k := 1) rfl
  cases e1
  obtain ⟨g', c5, c6, e1, -, d4, d5, z2⟩ := hz.at (k := 2) rfl
  cases e1
  obtain ⟨g0, k0, rfl, l0, f0⟩ := z0.first (k := 0) (x := 1) (y := -1) rfl
  obtain ⟨g1, k1, rfl, l1, f1⟩ := z1.first (k := 0) (x := 3) (y := -1) rfl
  obtain ⟨g2, k2, rfl, l2, f2⟩ := z2.first (k := 1) (x := 1) (y := -1) rfl
  have HB := Lib.hid (HB0.out.trans (hb.mono HB0.out.size))
  simp only [Nat.zero_mul, Nat.one_mul, List.length_cons, List.length_nil, Nat.zero_add, Nat.reduceAdd, Nat.reduceMul] at d0 d1 d2 d3 d4 d5 f0 f1 f2 ⊢
  clear hz hb z0 z1 z2 HP
  go_wp2
  go_ret
  exact ⟨rfl, HB.out⟩

set_option maxRecDepth 100000 in
set_option maxHeartbeats 2000000 in
theorem lawPuts_any {w : World} {v1 v2 : Value} {cl : List (Int × Int)} {gl : List Int} {a r : Int} (hz : ZoneIn w v1 v2 cl gl) (hcap : ∀ ad n c, v1 = .slice ad n c → n ≤ c) (hxb : ∀ c ∈ cl, ClsOK c) :
    Calls Try.prog 6 #[.agg #[v1, v2], .int .i64 a, .int .i64 r] w fun e w' => e = .returned (.bool true) ∧ Below w.heap.size w w' := by
  obtain ⟨ad1, k1, e1⟩ := hz.1.len
  obtain ⟨ad2, k2, e2⟩ := hz.2.len
  obtain ⟨n, hn⟩ : ∃ n, cl.length = n := ⟨_, rfl⟩
  obtain ⟨m, hm⟩ : ∃ m, gl.length = m := ⟨_, rfl⟩
  rw [hn] at e1; rw [hm] at e2
  subst e1; subst e2
  obtain ⟨W1, hW1⟩ : ∃ W1, w.alloc (.cells #[.slice ad1 n k1, .slice ad2 m k2] 45) = W1 := ⟨_, rfl⟩
  have hs1 : W1.heap.size = w.heap.size + 1 := by rw [← hW1]; simp
  have hb1 : Below w.heap.size w W1 := by rw [← hW1]; exact (Below.refl _ _).alloc (Nat.le_refl _) _
  have x1 : Blk W1 w.heap.size #[.slice ad1 n k1, .slice ad2 m k2] 45 := by rw [← hW1]; exact Blk.new _ _ _
  have HX1 := Lib.hid x1; have HB1 := Lib.hid hb1; have HZ := Lib.hid hz; have HCAP := Lib.hid hcap; have HXB := Lib.hid hxb
  have HN := Lib.hid hn; have HM := Lib.hid hm
  have c0 := x1.two.1; have c1 := x1.two.2
  have HG := Lib.hid (great_any (hz.below hb1))
  rw [hn, hm] at HG
  clear hz hb1 x1 hn hm hcap hxb
  go_enter Try.func6, Try.ntmps6
  go_wp2_with fail
  refine HG.out.mono ?_
  rintro e w2 ⟨rfl, hb2⟩
  have HX2 := Lib.hid (HX1.out.keep hb2)
  have HB2 := Lib.hid (HB1.out.trans (hb2.mono HB1.out.size))
  have d0 := HX2.out.two.1; have d1 := HX2.out.two.2
  have HAW := Lib.hid (awake24 w2)
  clear hb2 HX1 HG c0 c1
  by_cases hbad : 40 < n ∨ 40 < m ∨ 12 < n ∨ 5 < r
  · by_cases h1 : 40 < n ∨ 40 < m
    · have hq : (decide (40 < n) || decide (40 < m)) = true := by simp [h1]
      rw [hq]
      clear hq h1 hbad
      go_wp2_with fail
      refine HAW.out.mono ?_
      rintro e w3 ⟨rfl, hb3⟩
      have HB3 := Lib.hid (HB2.out.trans (hb3.mono HB2.out.size))
      clear hb3
      go_wp2
      go_ret
      exact ⟨rfl, HB3.out⟩
    · have hq : (decide (40 < n) || decide (40 < m)) = false := by simp; omega
      rw [hq]
      by_cases h2 : 12 < n
      · have hn2 : (12 : Int) < (n : Int) := by omega
        clear hq h1 hbad
        go_wp2_with fail
        refine HAW.out.mono ?_
        rintro e w3 ⟨rfl, hb3⟩
        have HB3 := Lib.hid (HB2.out.trans (hb3.mono HB2.out.size))
        clear hb3
        go_wp2
        go_ret
        exact ⟨rfl, HB3.out⟩
      · have hn2 : ¬ (12 : Int) < (n : Int) := by omega
        have hr2 : 5 < r := by omega
        clear hq h1 hbad
        go_wp2_with fail
        refine HAW.out.mono ?_
        rintro e w3 ⟨rfl, hb3⟩
        have HB3 := Lib.hid (HB2.out.trans (hb3.mono HB2.out.size))
        clear hb3
        go_wp2
        go_ret
        exact ⟨rfl, HB3.out⟩
  · have hq : (decide (40 < n) || decide (40 < m)) = false := by simp; omega
    rw [hq]
    have hn2 : ¬ (12 : Int) < (n : Int) := by omega
    have hr2 : ¬ (5 < r) := by omega
    have hcl : cl.length ≤ 60 := by rw [HN.out]; omega
    have hgl : gl.length ≤ 60 := by rw [HM.out]; omega
    have hr6 : r ≤ 6 := by omega
    have hp := putZ_any (a := a) (HZ.out.below HB2.out) hcl hr6
    obtain ⟨L, hL⟩ : ∃ L, putL cl gl a r = L := ⟨_, rfl⟩
    have hLs : ∀ z ∈ L, SmallZ z := by rw [← hL]; exact putL_small cl gl a r hcl hgl
    have hLl : L.length ≤ 100000 := by rw [← hL]; exact Nat.le_trans (putL_len cl gl a r hcl hr6) (by decide)
    have hcnt : L ≠ [] → countZ cl gl r = L.length := by rw [← hL]; exact count_is cl gl a r
    rw [hL] at hp
    have HP := Lib.hid hp
    have HL := Lib.hid hL; have HLS := Lib.hid hLs; have HCNT := Lib.hid hcnt; have HCL := Lib.hid hcl; have HGL := Lib.hid hgl
    clear hq hbad hp hL hLs hcnt HAW hcl hgl
    go_wp2_with fail
    refine HP.out.mono ?_
    rintro e w3 ⟨v3, rfl, hz3, hb3⟩
    obtain ⟨ad3, cap3, hv3⟩ := hz3.len
    subst hv3
    have HX3 := Lib.hid (HX2.out.keep hb3)
    have HB3 := Lib.hid (HB2.out.trans (hb3.mono HB2.out.size))
    have HZ3 := Lib.hid hz3
    have e0 := HX3.out.two.1; have e1 := HX3.out.two.2
    have hrp := rput_any (a := a) (HZ.out.below HB3.out) HCL.out HGL.out hr6 HCAP.out (fun c hc => (HXB.out c hc).1)
    rw [HL.out] at hrp
    have HRP := Lib.hid hrp
    clear hz3 hb3 d0 d1 HX2 HP hrp
    go_wp2_with fail
    refine HRP.out.mono ?_
    rintro e w4 ⟨v4, rfl, hz4, hb4⟩
    obtain ⟨ad4, cap4, hv4⟩ := hz4.len
    subst hv4
    have HX4 := Lib.hid (HX3.out.keep hb4)
    have HB4 := Lib.hid (HB3.out.trans (hb4.mono HB3.out.size))
    have f0 := HX4.out.two.1; have f1 := HX4.out.two.2
    have HSA := Lib.hid (sameAll_any (HZ3.out.below hb4) hz4 HLS.out hLl)
    clear hz4 hb4 e0 e1 HX3 HRP
    go_wp2_with fail
    refine HSA.out.mono ?_
    rintro e w5 ⟨rfl, hb5⟩
    have HX5 := Lib.hid (HX4.out.keep hb5)
    have HB5 := Lib.hid (HB4.out.trans (hb5.mono HB4.out.size))
    have g0 := HX5.out.two.1; have g1 := HX5.out.two.2
    clear hb5 f0 f1 HX4 HSA
    obtain ⟨N, hN⟩ : ∃ N, L.length = N := ⟨_, rfl⟩
    have HNN := Lib.hid hN
    rw [hN] at hLl ⊢
    clear hN
    by_cases h0 : N = 0
    · have hz0 : ((N : Int) == 0) = true := by simp [h0]
      clear h0
      go_wp2_with fail
      refine (awake24 _).mono ?_
      rintro e w6 ⟨rfl, hb6⟩
      have HB6 := Lib.hid (HB5.out.trans (hb6.mono HB5.out.size))
      clear hb6
      go_wp2
      go_ret
      exact ⟨rfl, HB6.out⟩
    · have hz0 : ((N : Int) == 0) = false := by simp [h0]
      have hcz := count_z (HZ.out.below HB5.out) HCL.out hr6
      rw [HCNT.out (fun e => h0 (by rw [← HNN.out, e]; rfl)), HNN.out] at hcz
      have HCZ := Lib.hid hcz
      clear h0 hcz
      go_wp2_with fail
      refine HCZ.out.mono ?_
      rintro e w6 ⟨rfl, hb6⟩
      have HB6 := Lib.hid (HB5.out.trans (hb6.mono HB5.out.size))
      clear hb6
      go_wp2_with fail
      refine (awake24 _).mono ?_
      rintro e w7 ⟨rfl, hb7⟩
      have HB7 := Lib.hid (HB6.out.trans (hb7.mono HB6.out.size))
      clear hb7
      go_wp2
      go_ret
      exact ⟨rfl, HB7.out⟩

end Go.Proofs.Ytjmggphnngffjaa
