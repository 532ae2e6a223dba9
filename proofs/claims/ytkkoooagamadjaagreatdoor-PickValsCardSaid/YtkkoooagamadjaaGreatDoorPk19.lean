/- put.Put. put.Count. warderref24: clipped; append of rows that lie anywhere. warderref24: own. -/
import Derived.Test.YtkkoooagamadjaaGreatDoorPk18
import Derived.BigQuiet

namespace Go.Proofs.YtkkoooagamadjaaGreatDoor
open Go.RowKit Go.Shelf

/-- the zones that Put has -/
def putL (cl : List (Int × Int)) (gl : List Int) (a r : Int) : List Zn :=
  if r < 1 then [] else if bitZ a = 0 then [] else if cl.any (fun c => hasB c.1 a) = true then [] else if gl.length = cl.length - 1 then putA cl gl a r else []

theorem reads_lit1 (w : World) (a : Int) (e : TypeId) : Reads (w.alloc (.cells #[.int .i64 a] e)) (.slice (some ⟨w.heap.size, 0, none⟩) 1 1) (ints [a]) := by
  refine .inr ⟨w.heap.size, 0, 1, rfl, by simp, by simp [ints, maxLen], fun t x hx => ?_⟩
  rw [World.cell?_alloc_at _ _ _ _ (by simp)]
  simpa [ints] using hx

set_option maxRecDepth 100000 in
set_option maxHeartbeats 1000000 in
theorem putZ_any {w : World} {v1 v2 : Value} {cl : List (Int × Int)} {gl : List Int} {a r : Int} (hz : ZoneIn w v1 v2 cl gl) (hcl : cl.length ≤ 60) (hr2 : r ≤ 6) :
    Calls Tryz.prog 20 #[.agg #[v1, v2], .int .i64 a, .int .i64 r] w fun e w' => ∃ v', e = .returned v' ∧ ZonesAt w' w.heap.size v' (putL cl gl a r) ∧ Below w.heap.size w w' := by
  obtain ⟨ad1, k1, e1⟩ := hz.1.len
  obtain ⟨ad2, k2, e2⟩ := hz.2.len
  obtain ⟨n, hn⟩ : ∃ n, cl.length = n := ⟨_, rfl⟩
  obtain ⟨m, hm⟩ : ∃ m, gl.length = m := ⟨_, rfl⟩
  rw [hn] at e1; rw [hm] at e2
  subst e1; subst e2
  obtain ⟨W1, hW1⟩ : ∃ W1, w.alloc (.cells #[.slice ad1 n k1, .slice ad2 m k2] 28) = W1 := ⟨_, rfl⟩
  have hs1 : W1.heap.size = w.heap.size + 1 := by rw [← hW1]; simp
  have hb1 : Below w.heap.size w W1 := by rw [← hW1]; exact (Below.refl _ _).alloc (Nat.le_refl _) _
  have x1 : Blk W1 w.heap.size #[.slice ad1 n k1, .slice ad2 m k2] 28 := by rw [← hW1]; exact Blk.new _ _ _
  obtain ⟨W2, hW2⟩ : ∃ W2, W1.alloc (.cells #[.slice none 0 0] 30) = W2 := ⟨_, rfl⟩
  have hs2 : W2.heap.size = w.heap.size + 2 := by rw [← hW2]; simp [hs1]
  have hb2 : Below w.heap.size w W2 := by rw [← hW2]; exact hb1.alloc (by omega) _
  have x2 : Blk W2 w.heap.size #[.slice ad1 n k1, .slice ad2 m k2] 28 := by rw [← hW2]; exact x1.alloc _
  have y2 : Blk W2 (w.heap.size + 1) #[.slice none 0 0] 30 := by rw [← hW2, ← hs1]; exact Blk.new _ _ _
  have HX2 := Lib.hid x2; have HY2 := Lib.hid y2; have HB2 := Lib.hid hb2
  have HZ := Lib.hid hz
  have HN := Lib.hid hn; have HM := Lib.hid hm
  have c0 := x2.two.1; have c1 := x2.two.2
  have c2 : W2.cell? ⟨w.heap.size + 1, 0, none⟩ = some (.slice none 0 0) := y2.cell rfl
  clear hz hn hm hb1 hb2 x1 x2 y2
  by_cases h1 : r < 1
  · have HE : Hid (putL cl gl a r = []) := by unfold Hid putL; rw [if_pos h1]
    go_enter Tryz.func20, Tryz.ntmps20
    go_wp2
    go_ret
    exact ⟨_, rfl, by rw [HE.out]; exact ZonesAt.nil _ _, HB2.out⟩
  · have HO := Lib.hid (of_any (.slice (some ⟨W2.heap.size, 0, none⟩) 1 1) [a] _ (reads_lit1 W2 a 3))
    rw [show ofL [a] = bitZ a from rfl, hs2] at HO
    obtain ⟨W3, hW3⟩ : ∃ W3, W2.alloc (.cells #[.int .i64 a] 3) = W3 := ⟨_, rfl⟩
    have hs3 : W3.heap.size = w.heap.size + 3 := by rw [← hW3]; simp [hs2]
    have hb3 : Below W2.heap.size W2 W3 := by rw [← hW3]; exact (Below.refl _ _).alloc (Nat.le_refl _) _
    have HX3 := Lib.hid (HX2.out.keep hb3); have HY3 := Lib.hid (HY2.out.keep hb3)
    have HB3 := Lib.hid (HB2.out.trans (hb3.mono HB2.out.size))
    rw [hW3] at HO
    have c3 := HX3.out.two.1; have c4 := HX3.out.two.2
    have c5 : W3.cell? ⟨w.heap.size + 1, 0, none⟩ = some (.slice none 0 0) := HY3.out.cell rfl
    obtain ⟨q, hq⟩ : ∃ q, bitZ a = q := ⟨_, rfl⟩
    have HQ := Lib.hid hq
    rw [hq] at HO
    clear hb3 hq
    by_cases h2 : q = 0
    · have HE : Hid (putL cl gl a r = []) := by unfold Hid putL; rw [if_neg h1, HQ.out, if_pos h2]
      have hq0 : (q == 0) = true := by simp [h2]
      clear h2
      go_enter Tryz.func20, Tryz.ntmps20
      go_wp2_with fail
      with_reducible refine HO.out.mono ?_
      rintro e w9 ⟨rfl, hw⟩
      rw [← hw]; clear hw w9
      go_wp2
      go_ret
      exact ⟨_, rfl, by rw [HE.out]; exact ZonesAt.nil _ _, HB3.out⟩
    · have hq0 : (q == 0) = false := by simp [h2]
      have HH := Lib.hid (putHas_any (a := a) (HZ.out.below HB3.out) (by omega))
      obtain ⟨t, ht⟩ : ∃ t, cl.any (fun c => hasB c.1 a) = t := ⟨_, rfl⟩
      have HT := Lib.hid ht
      rw [ht] at HH
      have HQ2 := Lib.hid h2
      clear ht h2
      go_enter Tryz.func20, Tryz.ntmps20
      go_wp2_with fail
      with_reducible refine HO.out.mono ?_
      rintro e w9 ⟨rfl, hw⟩
      rw [← hw]; clear hw w9
      go_wp2_with fail
      with_reducible refine HH.out.mono ?_
      rintro e W4 ⟨rfl, hb4⟩
      have HX4 := Lib.hid (HX3.out.keep hb4); have HY4 := Lib.hid (HY3.out.keep hb4)
      have HB4 := Lib.hid (HB3.out.trans (hb4.mono HB3.out.size))
      have c6 := HX4.out.two.1; have c7 := HX4.out.two.2
      have c8 : W4.cell? ⟨w.heap.size + 1, 0, none⟩ = some (.slice none 0 0) := HY4.out.cell rfl
      clear hb4 c0 c1 c2 c3 c4 c5 HX3 HY3 HX2 HY2 hW1 hW2 hW3
      cases t
      · have HFM := Lib.hid (putFormed_any (HZ.out.below HB4.out) (by omega))
        rw [HN.out, HM.out] at HFM
        go_wp2_with fail
        with_reducible refine HFM.out.mono ?_
        rintro e W5 ⟨rfl, hb5⟩
        have HX5 := Lib.hid (HX4.out.keep hb5); have HY5 := Lib.hid (HY4.out.keep hb5)
        have HB5 := Lib.hid (HB4.out.trans (hb5.mono HB4.out.size))
        have d6 := HX5.out.two.1; have d7 := HX5.out.two.2
        have d8 : W5.cell? ⟨w.heap.size + 1, 0, none⟩ = some (.slice none 0 0) := HY5.out.cell rfl
        clear hb5 c6 c7 c8 HX4 HY4
        by_cases hf : m = n - 1
        · have hfd : decide (m = n - 1) = true := decide_eq_true hf
          have HF := Lib.hid hf
          have HE : Hid (putL cl gl a r = putA cl gl a r) := by
            unfold Hid putL
            rw [if_neg (by omega), HQ.out, if_neg HQ2.out, HT.out, if_neg (by decide), HN.out, HM.out, if_pos hf]
          have hb6 : Below W5.heap.size W5 (W5.alloc (.cells #[.slice ad1 n k1, .slice ad2 m k2, .int .i64 a, .int .i64 r, tellV (w.heap.size + 1)] 76)) := (Below.refl _ _).alloc (Nat.le_refl _) _
          have y6 := HY5.out.keep hb6
          have hp : PI w w.heap.size (w.heap.size + 1) W5.heap.size (.slice ad1 n k1) (.slice ad2 m k2) cl gl a r (.slice none 0 0) [] (W5.alloc (.cells #[.slice ad1 n k1, .slice ad2 m k2, .int .i64 a, .int .i64 r, tellV (w.heap.size + 1)] 76)) :=
            ⟨y6, ZonesAt.nil _ _, Blk.new _ _ _, HZ.out, HB5.out.trans (hb6.mono HB5.out.size), Nat.le_trans HB5.out.size hb6.size, Nat.le_refl _, Nat.le_succ _, by have := HY5.out.lt; omega⟩
          have HA := Lib.hid (all_run hp hcl (by rw [HN.out, HM.out]; exact hf) (by omega) hr2 y6.lt)
          clear hf hb6 y6 hp
          unfold tellV at HA
          go_wp2_with fail
          with_reducible refine HA.out.mono ?_
          rintro e W7 ⟨rfl, v', hp7, hk7⟩
          have hbx := hp7.box
          obtain ⟨ad, cap, hvv⟩ := hp7.zones.len
          subst hvv
          have e6 : W7.cell? ⟨w.heap.size + 1, 0, none⟩ = some (.slice ad (putA cl gl a r).length cap) := hbx.cell rfl
          have HZ7 := Lib.hid hp7.zones
          have HB7 := Lib.hid hp7.low
          obtain ⟨L, hL⟩ : ∃ L, (putA cl gl a r).length = L := ⟨_, rfl⟩
          rw [hL] at e6 HZ7
          clear hp7 hk7 hbx
          go_wp2
          go_ret
          exact ⟨_, rfl, by rw [HE.out]; exact HZ7.out, HB7.out⟩
        · have hfd : decide (m = n - 1) = false := decide_eq_false hf
          have HE : Hid (putL cl gl a r = []) := by
            unfold Hid putL
            rw [if_neg (by omega), HQ.out, if_neg HQ2.out, HT.out, if_neg (by decide), HN.out, HM.out, if_neg hf]
          clear hf
          go_wp2
          go_ret
          exact ⟨_, rfl, by rw [HE.out]; exact ZonesAt.nil _ _, HB5.out⟩
      · have HE : Hid (putL cl gl a r = []) := by
          unfold Hid putL
          rw [if_neg (by omega), HQ.out, if_neg HQ2.out, HT.out, if_pos rfl]
        go_wp2
        go_ret
        exact ⟨_, rfl, by rw [HE.out]; exact ZonesAt.nil _ _, HB4.out⟩

end Go.Proofs.YtkkoooagamadjaaGreatDoor

namespace Go.Proofs.YtkkoooagamadjaaGreatDoor
open Go.RowKit Go.Shelf

/-- how many splits gaps have -/
def sumS (r : Int) (l : List Int) : Nat := (l.map fun g => (splP g r).length).sum
theorem sumS_snoc (r : Int) (l : List Int) (x : Int) : sumS r (l ++ [x]) = sumS r l + (splP x r).length := by simp [sumS]
theorem sumS_le (r : Int) (l : List Int) (h1 : 1 ≤ r) (h2 : r ≤ 6) : sumS r l ≤ l.length * 1024 := by
  induction l with
  | nil => simp [sumS]
  | cons x t ih =>
    have := splP_len x r h1 h2
    simp only [sumS, List.map_cons, List.sum_cons, List.length_cons] at *
    omega
def countZ (cl : List (Int × Int)) (gl : List Int) (r : Int) : Nat :=
  if r < 1 then 0 else if gl.length = cl.length - 1 then (if cl.length = 0 then 1 else cl.length + 2 * (kap (r - 1) + 1) + sumS r gl) else 0

theorem headZ_len (cl : List (Int × Int)) (gl : List Int) (a r : Int) (l : List Int) : (headZ cl gl a r l).length = l.length := by simp [headZ]
theorem tailZ_len (cl : List (Int × Int)) (gl : List Int) (a r : Int) (l : List Int) : (tailZ cl gl a r l).length = l.length := by simp [tailZ]
theorem outL_len' (r : Int) (h1 : 1 ≤ r) : (outL r).length = kap (r - 1) + 1 := by unfold outL; rw [if_neg (by omega)]; simp
theorem midZ_sum (cl : List (Int × Int)) (gl : List Int) (a r : Int) : ∀ k, k ≤ cl.length → gl.length = cl.length - 1 → (midZ cl gl a r k).length = k + sumS r (gl.take k) := by
  intro k
  induction k with
  | zero => intro _ _; simp [midZ, sumS]
  | succ k ih =>
    intro hk hg
    rw [midZ_succ, List.length_append, ih (by omega) hg]
    unfold stepZ
    by_cases h : k + 1 < cl.length
    · rw [if_pos h]
      have hkg : k < gl.length := by omega
      rw [List.take_succ_eq_append_getElem hkg, sumS_snoc]
      simp only [List.length_cons, List.length_map, List.getD_eq_getElem?_getD, List.getElem?_eq_getElem hkg, Option.getD_some]
      omega
    · rw [if_neg h, List.take_of_length_le (by omega), List.take_of_length_le (by omega)]
      simp only [List.length_cons, List.length_nil]
      omega
/-- Count counts -/
theorem count_is (cl : List (Int × Int)) (gl : List Int) (a r : Int) (h : putL cl gl a r ≠ []) : countZ cl gl r = (putL cl gl a r).length := by
  unfold putL at *
  unfold countZ
  by_cases h1 : r < 1
  · rw [if_pos h1] at h; exact absurd rfl h
  rw [if_neg h1] at h ⊢
  by_cases h2 : bitZ a = 0
  · rw [if_pos h2] at h; exact absurd rfl h
  rw [if_neg h2] at h ⊢
  by_cases h3 : cl.any (fun c => hasB c.1 a) = true
  · rw [if_pos h3] at h; exact absurd rfl h
  rw [if_neg h3] at h ⊢
  by_cases h4 : gl.length = cl.length - 1
  · simp only [if_neg h1, if_pos h4]
    unfold putA
    by_cases h5 : cl.length = 0
    · rw [if_pos h5, if_pos h5]; rfl
    · rw [if_neg h5, if_neg h5, List.length_append, List.length_append, headZ_len, tailZ_len, List.length_reverse, outL_len' r (by omega), midZ_sum cl gl a r _ (Nat.le_refl _) h4, List.take_of_length_le (by omega)]
      omega
  · rw [if_neg h4] at h; exact absurd rfl h

end Go.Proofs.YtkkoooagamadjaaGreatDoor

namespace Go.Proofs.YtkkoooagamadjaaGreatDoor
open Go.RowKit Go.Shelf

theorem clipL_take (gl : List Int) (r : Int) (k : Nat) (x : Int) (h : gl[k]? = some x) : clipL (gl.take (k + 1)) r = clipL (gl.take k) r ++ [klip x r] := by
  obtain ⟨h1, h2⟩ := List.getElem?_eq_some_iff.1 h
  rw [List.take_succ_eq_append_getElem h1, h2]; simp [clipL]

set_option maxRecDepth 100000 in
set_option maxHeartbeats 1000000 in
theorem rclipped_any {w : World} {v : Value} {gl : List Int} (r : Int) (hv : RdK w 1 v gl.length (ints gl)) (hl : gl.length ≤ 65536) :
    Calls Tryz.prog 98 #[v, .int .i64 r] w fun e w' => ∃ v', e = .returned v' ∧ w'.ownsRow w.heap.size 3 1 v' gl.length (ints (clipL gl r)) ∧ Below w.heap.size w w' := by
  obtain ⟨ad, cap, rfl⟩ := hv.len
  obtain ⟨n, hn⟩ : ∃ n, gl.length = n := ⟨_, rfl⟩
  have HN := Lib.hid hn
  rw [hn] at hv hl ⊢
  have HV := Lib.hid hv
  clear hv hn
  go_enter Tryz.func98, Tryz.ntmps98
  go_wp2
  go_loopw [5, 6] (fun out i wr => ∃ k : Nat, i = .int .i64 k ∧ k ≤ n ∧ wr.ownsRow w.heap.size 3 1 out k (ints (clipL (gl.take k) r)) ∧ Below w.heap.size w wr) (fun _ i _ => n - (intOf i).toNat)
  case atStart => exact ⟨0, rfl, Nat.zero_le _, World.ownsRow_nil _ _ _ _, Below.refl _ _⟩
  case round =>
    obtain ⟨k, rfl, hk, hown, hb⟩ := hrel
    by_cases hlt : k < n
    · have hkn : (k : Int) < (n : Int) := by omega
      obtain ⟨x, hx⟩ : ∃ x, gl[k]? = some x := ⟨_, List.getElem?_eq_getElem (by rw [HN.out]; exact hlt)⟩
      obtain ⟨gb, go, rfl, hgbl, hgc⟩ := (HV.out.below hb).at (by omega)
      have cg : wr.cell? ⟨gb, go + k, none⟩ = some (.int .i64 x) := hgc k _ (by simp [ints, hx])
      have HS := Lib.hid (clipL_take gl r k x hx)
      obtain ⟨y, hy⟩ : ∃ y, klip x r = y := ⟨_, rfl⟩
      have HY := Lib.hid hy
      have HB := Lib.hid hb
      have HO := Lib.hid hown
      have hsz := hb.size
      obtain ⟨oad, ocap, rfl⟩ := owns_len hown
      clear hx hgc hy hb hown
      go_wp2_with fail
      refine (rclip_any x r _).mono ?_
      rintro e w' ⟨rfl, rfl⟩
      rw [HY.out]
      go_wp2_with (first | (at_builtin; refine app1 wr #[.int .i64 y] rfl _ _ 26 rfl w.heap.size 3 (.int .i64 0) 1 8 Tryz.underlying26 info_int rfl (by decide) (by decide) _ _ _ rfl (by exact HO.out) rfl (by simp) rfl (by simp [Value.oneCell']) (by omega) hsz ?_; intro v' w2 hown' hg' hb') | fail)
      have HF : Hid (w2.ownsRow w.heap.size 3 1 v' (k + 1) (ints (clipL (gl.take (k + 1)) r)) ∧ Below w.heap.size w w2) := by
        unfold Hid
        rw [HS.out, HY.out]
        exact ⟨by simpa [ints] using hown', HB.out.trans hb'⟩
      clear hown' hg' hb'
      go_wp2
      go_roundw
      case rel => exact ⟨k + 1, by go_num, by omega, HF.out.1, HF.out.2⟩
      case measure => simp [intOf]; omega
    · obtain rfl : k = n := by omega
      rw [show gl.take k = gl from by rw [← HN.out]; exact List.take_length] at hown
      obtain ⟨oad, ocap, rfl⟩ := owns_len hown
      have HO := Lib.hid hown
      have HB := Lib.hid hb
      clear hown hb
      go_wp2
      go_ret
      exact ⟨_, rfl, HO.out, HB.out⟩

end Go.Proofs.YtkkoooagamadjaaGreatDoor

namespace Go.Proofs.YtkkoooagamadjaaGreatDoor
open Go.RowKit Go.Shelf

/-- how own's zone lies while it is built -/
structure OS (w : World) (v1 v2 c1 c2 : Value) (xs : List (Int × Int)) (gs : List Int) (W : World) : Prop where
  z : Blk W w.heap.size #[v1, v2] 28
  res : Blk W (w.heap.size + 1) #[.slice none 0 0, .slice none 0 0] 28
  out : Blk W (w.heap.size + 2) #[c1, c2] 28
  zn : ZoneAt W w.heap.size c1 c2 xs gs
  low : Below w.heap.size w W
theorem OS.below {w W W' : World} {v1 v2 c1 c2 : Value} {xs : List (Int × Int)} {gs : List Int} (h : OS w v1 v2 c1 c2 xs gs W) (hb : Below W.heap.size W W') : OS w v1 v2 c1 c2 xs gs W' :=
  ⟨h.z.keep hb, h.res.keep hb, h.out.keep hb, h.zn.below hb, h.low.trans (hb.mono h.low.size)⟩
theorem OS.facts {w W : World} {v1 v2 c1 c2 : Value} {xs : List (Int × Int)} {gs : List Int} (h : OS w v1 v2 c1 c2 xs gs W) :
    W.cell? ⟨w.heap.size, 0, none⟩ = some v1 ∧ W.cell? ⟨w.heap.size, 1, none⟩ = some v2 ∧ W.cell? ⟨w.heap.size + 2, 0, none⟩ = some c1 ∧ W.cell? ⟨w.heap.size + 2, 1, none⟩ = some c2 ∧ w.heap.size + 2 < W.heap.size ∧
      W.frozen? ⟨w.heap.size + 2, 0, none⟩ = false ∧ W.frozen? ⟨w.heap.size + 2, 1, none⟩ = false :=
  ⟨h.z.two.1, h.z.two.2, h.out.two.1, h.out.two.2, h.out.lt, h.out.free 0, h.out.free 1⟩
theorem OS.grown {w W W' : World} {v1 v2 c1 c2 : Value} {xs : List (Int × Int)} {gs : List Int} (h : OS w v1 v2 c1 c2 xs gs W) {base n sz : Nat} {e : TypeId} {v : Value} {ys : List Value} (hr : W.ownsRow base e sz v n ys) (hbs : w.heap.size ≤ base) (he : 28 ≠ e) (hg : W.grownBy W' v.ownBlock) :
    Blk W' w.heap.size #[v1, v2] 28 ∧ Blk W' (w.heap.size + 1) #[.slice none 0 0, .slice none 0 0] 28 ∧ Blk W' (w.heap.size + 2) #[c1, c2] 28 ∧ Below w.heap.size w W' :=
  ⟨h.z.grown hg (h.z.row_ne hr he), h.res.grown hg (h.res.row_ne hr he), h.out.grown hg (h.out.row_ne hr he), h.low.grown hg h.low.size (fun k hk => by have := (hr.lt k hk).1; omega)⟩
theorem OS.cellC {w W W' : World} {v1 v2 c1 c2 : Value} {xs : List (Int × Int)} {gs : List Int} (h : OS w v1 v2 c1 c2 xs gs W) (hg : W.grownBy W' c1.ownBlock) :
    W'.cell? ⟨w.heap.size + 2, 0, none⟩ = some c1 ∧ W'.frozen? ⟨w.heap.size + 2, 0, none⟩ = false ∧ w.heap.size + 2 < W'.heap.size := by
  obtain ⟨_, _, h3, _⟩ := h.grown h.zn.1 (Nat.le_refl _) (by decide) hg
  exact ⟨h3.two.1, h3.free 0, h3.lt⟩
theorem OS.cellG {w W W' : World} {v1 v2 c1 c2 : Value} {xs : List (Int × Int)} {gs : List Int} (h : OS w v1 v2 c1 c2 xs gs W) (hg : W.grownBy W' c2.ownBlock) :
    W'.cell? ⟨w.heap.size + 2, 1, none⟩ = some c2 ∧ W'.frozen? ⟨w.heap.size + 2, 1, none⟩ = false ∧ w.heap.size + 2 < W'.heap.size := by
  obtain ⟨_, _, h3, _⟩ := h.grown h.zn.2 (Nat.le_refl _) (by decide) hg
  exact ⟨h3.two.2, h3.free 1, h3.lt⟩
/-- classes more -/
theorem OS.appC {w W W' : World} {v1 v2 c1 c2 c1' : Value} {xs ys : List (Int × Int)} {gs : List Int} (h : OS w v1 v2 c1 c2 xs gs W) (ho : W'.ownsRow w.heap.size 47 2 c1' (xs.length + ys.length) (cellsP xs ++ cellsP ys)) (hg : W.grownBy W' c1.ownBlock) :
    OS w v1 v2 c1' c2 (xs ++ ys) gs (W'.setCell ⟨w.heap.size + 2, 0, none⟩ c1') := by
  obtain ⟨h1, h2, h3, h4⟩ := h.grown h.zn.1 (Nat.le_refl _) (by decide) hg
  refine ⟨h1.other (by omega) _, h2.other (by omega) _, h3.store 0 _, ⟨?_, ?_⟩, h4.setCell (p := ⟨w.heap.size + 2, 0, none⟩) (by simp) _⟩
  · rw [List.length_append, cellsP_append]
    exact ownsRow_setCell_other ho (h3.row_ne ho (by decide)) _
  · have g2 := owns_beside h.zn.1 h.zn.2 (by decide) hg
    exact ownsRow_setCell_other g2 (h3.row_ne g2 (by decide)) _
/-- gaps more -/
theorem OS.appG {w W W' : World} {v1 v2 c1 c2 c2' : Value} {xs : List (Int × Int)} {gs ys : List Int} (h : OS w v1 v2 c1 c2 xs gs W) (ho : W'.ownsRow w.heap.size 3 1 c2' (gs.length + ys.length) (ints gs ++ ints ys)) (hg : W.grownBy W' c2.ownBlock) :
    OS w v1 v2 c1 c2' xs (gs ++ ys) (W'.setCell ⟨w.heap.size + 2, 1, none⟩ c2') := by
  obtain ⟨h1, h2, h3, h4⟩ := h.grown h.zn.2 (Nat.le_refl _) (by decide) hg
  refine ⟨h1.other (by omega) _, h2.other (by omega) _, h3.store 1 _, ⟨?_, ?_⟩, h4.setCell (p := ⟨w.heap.size + 2, 1, none⟩) (by simp) _⟩
  · have g2 := owns_beside h.zn.2 h.zn.1 (by decide) hg
    exact ownsRow_setCell_other g2 (h3.row_ne g2 (by decide)) _
  · rw [List.length_append, show ints (gs ++ ys) = ints gs ++ ints ys by simp [ints]]
    exact ownsRow_setCell_other ho (h3.row_ne ho (by decide)) _

/-- a row of numbers below B, not in a box -/
def RdB (W : World) (B box : Nat) (v : Value) (n : Nat) (xs : List Value) : Prop :=
  ∃ ad cap, v = .slice ad n cap ∧ xs.length = n ∧ n ≤ cap ∧ (n = 0 ∨ ∃ b, ad = some ⟨b, 0, none⟩ ∧ b < B ∧ b ≠ box ∧ b < W.heap.size ∧ ∀ t x, xs[t]? = some x → W.cell? ⟨b, t, none⟩ = some x)
theorem RdB.of_owns {W : World} {base n box : Nat} {v : Value} {xs : List Value} {cs : Array Value} {t : TypeId} (h : W.ownsRow base 3 1 v n xs) (hb : Blk W box cs t) (ht : t ≠ 3) : RdB W W.heap.size box v n xs := by
  have hl := h.1
  rcases h.2 with ⟨rfl, h0⟩ | ⟨g, cap, cur, rfl, hb1, hg, hn, hm, hs, htk⟩
  · exact ⟨none, 0, by rw [h0], by omega, by omega, .inl h0⟩
  · refine ⟨_, cap, rfl, by omega, hn, .inr ⟨g, rfl, (Array.getElem?_eq_some_iff.1 hg).1, fun e => ?_, (Array.getElem?_eq_some_iff.1 hg).1, fun t x hx => ?_⟩⟩
    · subst e
      rw [show W.heap[g]? = _ from hb] at hg; cases hg; exact ht rfl
    · have hc := World.ownsRow.cellAt h t (by have := (List.getElem?_eq_some_iff.1 hx).1; omega)
      rw [hc, hx]
theorem RdB.grown {W W' : World} {B box n : Nat} {v : Value} {xs : List Value} {row : Option Nat} (h : RdB W B box v n xs) (hg : W.grownBy W' row) (hr : ∀ k, row = some k → B ≤ k) : RdB W' B box v n xs := by
  obtain ⟨ad, cap, hv, hl, hn, h⟩ := h
  refine ⟨ad, cap, hv, hl, hn, ?_⟩
  rcases h with h | ⟨b, ha, h1, h2, h3, hc⟩
  · exact .inl h
  · exact .inr ⟨b, ha, h1, h2, Nat.lt_of_lt_of_le h3 hg.size, fun t x hx => (World.cell?_of_block (a := ⟨b, t, none⟩) (hg.block b h3 (fun e => by have := hr b e.symm; omega))).trans (hc t x hx)⟩
theorem RdB.setBox {W : World} {B box n : Nat} {v : Value} {xs : List Value} (h : RdB W B box v n xs) (j : Nat) (u : Value) : RdB (W.setCell ⟨box, j, none⟩ u) B box v n xs := by
  obtain ⟨ad, cap, hv, hl, hn, h⟩ := h
  refine ⟨ad, cap, hv, hl, hn, ?_⟩
  rcases h with h | ⟨b, ha, h1, h2, h3, hc⟩
  · exact .inl h
  · exact .inr ⟨b, ha, h1, h2, by simpa [World.setCell] using h3, fun t x hx => (World.cell?_of_block (a := ⟨b, t, none⟩) (Below.heap_setCell W ⟨box, j, none⟩ u b h2)).trans (hc t x hx)⟩
theorem RdB.rd {W : World} {B box n : Nat} {v : Value} {xs : List Value} (h : RdB W B box v n xs) : RdK W 1 v n xs := by
  obtain ⟨ad, cap, hv, hl, hn, h⟩ := h
  refine ⟨ad, cap, hv, by omega, ?_⟩
  rcases h with h | ⟨b, ha, h1, h2, h3, hc⟩
  · exact .inl h
  · exact .inr ⟨b, 0, ha, h3, fun t x hx => by rw [Nat.zero_add]; exact hc t x hx⟩
theorem RdB.drew {W : World} {B box n : Nat} {v : Value} {xs : List Value} (h : RdB W B box v n xs) : RdB W.drew B box v n xs := h
/-- own's zone, the gaps in memory from B on, and the gaps that are read -/
structure OG (w : World) (v1 v2 c1 c2 : Value) (xs : List (Int × Int)) (gs : List Int) (B : Nat) (gv : Value) (m : Nat) (gl' : List Int) (W : World) : Prop where
  os : OS w v1 v2 c1 c2 xs gs W
  row : W.ownsRow B 3 1 c2 gs.length (ints gs)
  rd : RdB W B (w.heap.size + 2) gv m (ints gl')
  hb : B ≤ W.heap.size
  h0 : w.heap.size ≤ B
theorem OG.drew {w W : World} {v1 v2 c1 c2 gv : Value} {xs : List (Int × Int)} {gs gl' : List Int} {B m : Nat} (h : OG w v1 v2 c1 c2 xs gs B gv m gl' W) : OG w v1 v2 c1 c2 xs gs B gv m gl' W.drew :=
  ⟨h.os.below (Below.refl _ W).drew, h.row, h.rd.drew, h.hb, h.h0⟩
theorem OG.app {w W W' : World} {v1 v2 c1 c2 c2' gv : Value} {xs : List (Int × Int)} {gs gl' ys : List Int} {B m : Nat} (h : OG w v1 v2 c1 c2 xs gs B gv m gl' W) (ho : W'.ownsRow B 3 1 c2' (gs.length + ys.length) (ints gs ++ ints ys)) (hg : W.grownBy W' c2.ownBlock) :
    OG w v1 v2 c1 c2' xs (gs ++ ys) B gv m gl' (W'.setCell ⟨w.heap.size + 2, 1, none⟩ c2') := by
  obtain ⟨_, _, h3, _⟩ := h.os.grown h.os.zn.2 (Nat.le_refl _) (by decide) hg
  refine ⟨h.os.appG (owns_mono ho h.h0) hg, ?_, (h.rd.grown hg (fun k hk => (h.row.lt k hk).1)).setBox 1 _, by have := hg.size; have := h.hb; simp [World.setCell]; omega, h.h0⟩
  rw [List.length_append, show ints (gs ++ ys) = ints gs ++ ints ys by simp [ints]]
  exact ownsRow_setCell_other ho (h3.row_ne ho (by decide)) _

end Go.Proofs.YtkkoooagamadjaaGreatDoor
