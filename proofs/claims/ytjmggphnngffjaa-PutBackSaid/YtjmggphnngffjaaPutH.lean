/- put.Put. -/
import Derived.Test.YtjmggphnngffjaaPutG
namespace Go.Proofs.Ytjmggphnngffjaa
open Go.RowKit Go.Shelf

/-- the zones that Put has -/
def putL (cl : List (Int × Int)) (gl : List Int) (a r : Int) : List Zn :=
  if r < 1 then [] else if bitZ a = 0 then [] else if cl.any (fun c => hasB c.1 a) = true then [] else if gl.length = cl.length - 1 then putA cl gl a r else []

theorem reads_lit1 (w : World) (a : Int) (e : TypeId) : Reads (w.alloc (.cells #[.int .i64 a] e)) (.slice (some ⟨w.heap.size, 0, none⟩) 1 1) (ints [a]) := by
  refine .inr ⟨w.heap.size, 0, 1, rfl, by simp, by simp [ints, maxLen], fun t x hx => ?_⟩
  rw [World.cell?_alloc_at _ _ _ _ (by simp)]
  simpa [ints] using hx

set_option maxRecDepth 100000 in
set_option maxHeartbeats 1000000 in
theorem putZ_any {w : World} {v1 v2 : Value} {cl : List (Int × Int)} {gl : List Int} {a r : Int} (hz : ZoneIn w v1 v2 cl gl) (hcl : cl.length ≤ 60) (hr2 : r ≤ 6) :
    Calls Try.prog 16 #[.agg #[v1, v2], .int .i64 a, .int .i64 r] w fun e w' => ∃ v', e = .returned v' ∧ ZonesAt w' w.heap.size v' (putL cl gl a r) ∧ Below w.heap.size w w' := by
  obtain ⟨ad1, k1, e1⟩ := hz.1.len
  obtain ⟨ad2, k2, e2⟩ := hz.2.len
  obtain ⟨n, hn⟩ : ∃ n, cl.length = n := ⟨_, rfl⟩
  obtain ⟨m, hm⟩ : ∃ m, gl.length = m := ⟨_, rfl⟩
  rw [hn] at e1; rw [hm] at e2
  subst e1; subst e2
  obtain ⟨W1, hW1⟩ : ∃ W1, w.alloc (.cells #[.slice ad1 n k1, .slice ad2 m k2] 45) = W1 := ⟨_, rfl⟩
  have hs1 : W1.heap.size = w.heap.size + 1 := by rw [← hW1]; simp
  have hb1 : Below w.heap.size w W1 := by rw [← hW1]; exact (Below.refl _ _).alloc (Nat.le_refl _) _
  have x1 : Blk W1 w.heap.size #[.slice ad1 n k1, .slice ad2 m k2] 45 := by rw [← hW1]; exact Blk.new _ _ _
  obtain ⟨W2, hW2⟩ : ∃ W2, W1.alloc (.cells #[.slice none 0 0] 41) = W2 := ⟨_, rfl⟩
  have hs2 : W2.heap.size = w.heap.size + 2 := by rw [← hW2]; simp [hs1]
  have hb2 : Below w.heap.size w W2 := by rw [← hW2]; exact hb1.alloc (by omega) _
  have x2 : Blk W2 w.heap.size #[.slice ad1 n k1, .slice ad2 m k2] 45 := by rw [← hW2]; exact x1.alloc _
  have y2 : Blk W2 (w.heap.size + 1) #[.slice none 0 0] 41 := by rw [← hW2, ← hs1]; exact Blk.new _ _ _
  have HX2 := Lib.hid x2; have HY2 := Lib.hid y2; have HB2 := Lib.hid hb2
  have HZ := Lib.hid hz
  have HN := Lib.hid hn; have HM := Lib.hid hm
  have c0 := x2.two.1; have c1 := x2.two.2
  have c2 : W2.cell? ⟨w.heap.size + 1, 0, none⟩ = some (.slice none 0 0) := y2.cell rfl
  clear hz hn hm hb1 hb2 x1 x2 y2
  by_cases h1 : r < 1
  · have HE : Hid (putL cl gl a r = []) := by unfold Hid putL; rw [if_pos h1]
    go_enter Try.func16, Try.ntmps16
    go_wp2
    go_ret
    exact ⟨_, rfl, by rw [HE.out]; exact ZonesAt.nil _ _, HB2.out⟩
  · have HO := Lib.hid (of_any (.slice (some ⟨W2.heap.size, 0, none⟩) 1 1) [a] _ (reads_lit1 W2 a 3))
    rw [show ofL [a] = bitZ a from rfl, hs2] at HO
    obtain ⟨W3, hW3⟩ : ∃ W3, W2.alloc (.cells #[.int .i64 a] 3) = W3 := ⟨_, rfl⟩
    have hs3 : W3.heap.size = w.heap.size + 3 := by rw [← hW3]; simp [hs2]
    have hb3 : Below W2.heap.size W2 W3 := by rw [← hW3]; exact (Below.refl _ _).alloc (Nat.le_refl _) _
    have HX3 := Lib.hid (HX2.out.keep hb3); have HY3 := Lib.hid (HY2.out.keep hb3)
    have HB3 := Lib.hid (HB2.out.trans (hb3.mono HB2.out.size))
    rw [hW3] at HO
    have c3 := HX3.out.two.1; have c4 := HX3.out.two.2
    have c5 : W3.cell? ⟨w.heap.size + 1, 0, none⟩ = some (.slice none 0 0) := HY3.out.cell rfl
    obtain ⟨q, hq⟩ : ∃ q, bitZ a = q := ⟨_, rfl⟩
    have HQ := Lib.hid hq
    rw [hq] at HO
    clear hb3 hq
    by_cases h2 : q = 0
    · have HE : Hid (putL cl gl a r = []) := by unfold Hid putL; rw [if_neg h1, HQ.out, if_pos h2]
      have hq0 : (q == 0) = true := by simp [h2]
      clear h2
      go_enter Try.func16, Try.ntmps16
      go_wp2_with fail
      with_reducible refine HO.out.mono ?_
      rintro e w9 ⟨rfl, hw⟩
      rw [← hw]; clear hw w9
      go_wp2
      go_ret
      exact ⟨_, rfl, by rw [HE.out]; exact ZonesAt.nil _ _, HB3.out⟩
    · have hq0 : (q == 0) = false := by simp [h2]
      have HH := Lib.hid (putHas_any (a := a) (HZ.out.below HB3.out) (by omega))
      obtain ⟨t, ht⟩ : ∃ t, cl.any (fun c => hasB c.1 a) = t := ⟨_, rfl⟩
      have HT := Lib.hid ht
      rw [ht] at HH
      have HQ2 := Lib.hid h2
      clear ht h2
      go_enter Try.func16, Try.ntmps16
      go_wp2_with fail
      with_reducible refine HO.out.mono ?_
      rintro e w9 ⟨rfl, hw⟩
      rw [← hw]; clear hw w9
      go_wp2_with fail
      with_reducible refine HH.out.mono ?_
      rintro e W4 ⟨rfl, hb4⟩
      have HX4 := Lib.hid (HX3.out.keep hb4); have HY4 := Lib.hid (HY3.out.keep hb4)
      have HB4 := Lib.hid (HB3.out.trans (hb4.mono HB3.out.size))
      have c6 := HX4.out.two.1; have c7 := HX4.out.two.2
      have c8 : W4.cell? ⟨w.heap.size + 1, 0, none⟩ = some (.slice none 0 0) := HY4.out.cell rfl
      clear hb4 c0 c1 c2 c3 c4 c5 HX3 HY3 HX2 HY2 hW1 hW2 hW3
      cases t
      · have HFM := Lib.hid (putFormed_any (HZ.out.below HB4.out) (by omega))
        rw [HN.out, HM.out] at HFM
        go_wp2_with fail
        with_reducible refine HFM.out.mono ?_
        rintro e W5 ⟨rfl, hb5⟩
        have HX5 := Lib.hid (HX4.out.keep hb5); have HY5 := Lib.hid (HY4.out.keep hb5)
        have HB5 := Lib.hid (HB4.out.trans (hb5.mono HB4.out.size))
        have d6 := HX5.out.two.1; have d7 := HX5.out.two.2
        have d8 : W5.cell? ⟨w.heap.size + 1, 0, none⟩ = some (.slice none 0 0) := HY5.out.cell rfl
        clear hb5 c6 c7 c8 HX4 HY4
        by_cases hf : m = n - 1
        · have hfd : decide (m = n - 1) = true := decide_eq_true hf
          have HF := Lib.hid hf
          have HE : Hid (putL cl gl a r = putA cl gl a r) := by
            unfold Hid putL
            rw [if_neg (by omega), HQ.out, if_neg HQ2.out, HT.out, if_neg (by decide), HN.out, HM.out, if_pos hf]
          have hb6 : Below W5.heap.size W5 (W5.alloc (.cells #[.slice ad1 n k1, .slice ad2 m k2, .int .i64 a, .int .i64 r, tellV (w.heap.size + 1)] 69)) := (Below.refl _ _).alloc (Nat.le_refl _) _
          have y6 := HY5.out.keep hb6
          have hp : PI w w.heap.size (w.heap.size + 1) W5.heap.size (.slice ad1 n k1) (.slice ad2 m k2) cl gl a r (.slice none 0 0) [] (W5.alloc (.cells #[.slice ad1 n k1, .slice ad2 m k2, .int .i64 a, .int .i64 r, tellV (w.heap.size + 1)] 69)) :=
            ⟨y6, ZonesAt.nil _ _, Blk.new _ _ _, HZ.out, HB5.out.trans (hb6.mono HB5.out.size), Nat.le_trans HB5.out.size hb6.size, Nat.le_refl _, Nat.le_succ _, by have := HY5.out.lt; omega⟩
          have HA := Lib.hid (all_run hp hcl (by rw [HN.out, HM.out]; exact hf) (by omega) hr2 y6.lt)
          clear hf hb6 y6 hp
          unfold tellV at HA
          go_wp2_with fail
          with_reducible refine HA.out.mono ?_
          rintro e W7 ⟨rfl, v', hp7, hk7⟩
          have hbx := hp7.box
          obtain ⟨ad, cap, hvv⟩ := hp7.zones.len
          subst hvv
          have e6 : W7.cell? ⟨w.heap.size + 1, 0, none⟩ = some (.slice ad (putA cl gl a r).length cap) := hbx.cell rfl
          have HZ7 := Lib.hid hp7.zones
          have HB7 := Lib.hid hp7.low
          obtain ⟨L, hL⟩ : ∃ L, (putA cl gl a r).length = L := ⟨_, rfl⟩
          rw [hL] at e6 HZ7
          clear hp7 hk7 hbx
          go_wp2
          go_ret
          exact ⟨_, rfl, by rw [HE.out]; exact HZ7.out, HB7.out⟩
        · have hfd : decide (m = n - 1) = false := decide_eq_false hf
          have HE : Hid (putL cl gl a r = []) := by
            unfold Hid putL
            rw [if_neg (by omega), HQ.out, if_neg HQ2.out, HT.out, if_neg (by decide), HN.out, HM.out, if_neg hf]
          clear hf
          go_wp2
          go_ret
          exact ⟨_, rfl, by rw [HE.out]; exact ZonesAt.nil _ _, HB5.out⟩
      · have HE : Hid (putL cl gl a r = []) := by
          unfold Hid putL
          rw [if_neg (by omega), HQ.out, if_neg HQ2.out, HT.out, if_pos rfl]
        go_wp2
        go_ret
        exact ⟨_, rfl, by rw [HE.out]; exact ZonesAt.nil _ _, HB4.out⟩

end Go.Proofs.Ytjmggphnngffjaa
