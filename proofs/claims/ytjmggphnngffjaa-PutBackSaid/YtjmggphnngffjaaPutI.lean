/- put.Count. -/
import Derived.Test.YtjmggphnngffjaaPutH
import Derived.BigQuiet
namespace Go.Proofs.Ytjmggphnngffjaa
open Go.RowKit Go.Shelf

/-- how many splits gaps have -/
def sumS (r : Int) (l : List Int) : Nat := (l.map fun g => (splP g r).length).sum
theorem sumS_snoc (r : Int) (l : List Int) (x : Int) : sumS r (l ++ [x]) = sumS r l + (splP x r).length := by simp [sumS]
theorem sumS_le (r : Int) (l : List Int) (h1 : 1 ≤ r) (h2 : r ≤ 6) : sumS r l ≤ l.length * 1024 := by
  induction l with
  | nil => simp [sumS]
  | cons x t ih =>
    have := splP_len x r h1 h2
    simp only [sumS, List.map_cons, List.sum_cons, List.length_cons] at *
    omega
def countZ (cl : List (Int × Int)) (gl : List Int) (r : Int) : Nat :=
  if r < 1 then 0 else if gl.length = cl.length - 1 then (if cl.length = 0 then 1 else cl.length + 2 * (kap (r - 1) + 1) + sumS r gl) else 0

set_option maxRecDepth 100000 in
set_option maxHeartbeats 1000000 in
theorem count_z {w : World} {v1 v2 : Value} {cl : List (Int × Int)} {gl : List Int} {r : Int} (hz : ZoneIn w v1 v2 cl gl) (hcl : cl.length ≤ 60) (hr2 : r ≤ 6) :
    Calls Try.prog 27 #[.agg #[v1, v2], .int .i64 r] w fun e w' => e = .returned (.int .i64 (countZ cl gl r)) ∧ Below w.heap.size w w' := by
  obtain ⟨ad1, k1, e1⟩ := hz.1.len
  obtain ⟨ad2, k2, e2⟩ := hz.2.len
  obtain ⟨n, hn⟩ : ∃ n, cl.length = n := ⟨_, rfl⟩
  obtain ⟨m, hm⟩ : ∃ m, gl.length = m := ⟨_, rfl⟩
  rw [hn] at e1; rw [hm] at e2
  subst e1; subst e2
  obtain ⟨W1, hW1⟩ : ∃ W1, w.alloc (.cells #[.slice ad1 n k1, .slice ad2 m k2] 45) = W1 := ⟨_, rfl⟩
  have hs1 : W1.heap.size = w.heap.size + 1 := by rw [← hW1]; simp
  have hb1 : Below w.heap.size w W1 := by rw [← hW1]; exact (Below.refl _ _).alloc (Nat.le_refl _) _
  have x1 : Blk W1 w.heap.size #[.slice ad1 n k1, .slice ad2 m k2] 45 := by rw [← hW1]; exact Blk.new _ _ _
  have HX1 := Lib.hid x1; have HB1 := Lib.hid hb1
  have HZ := Lib.hid hz
  have HN := Lib.hid hn; have HM := Lib.hid hm
  have c0 := x1.two.1; have c1 := x1.two.2
  clear hz hb1 x1
  by_cases h1 : r < 1
  · have HE : Hid (countZ cl gl r = 0) := by unfold Hid countZ; rw [if_pos h1]
    clear hn hm
    go_enter Try.func27, Try.ntmps27
    go_wp2
    go_ret
    exact ⟨ret_int (by rw [HE.out]; rfl), HB1.out⟩
  · have HFM := Lib.hid (putFormed_any (HZ.out.below HB1.out) (by omega))
    rw [hn, hm] at HFM
    have h1' : 1 ≤ r := by omega
    have hkap := kap_small r h1' hr2
    obtain ⟨q, hq⟩ : ∃ q, kap (r - 1) = q := ⟨_, rfl⟩
    rw [hq] at hkap
    have HQ := Lib.hid hq
    rw [hn] at hcl
    clear hn hm hq
    go_enter Try.func27, Try.ntmps27
    go_wp2_with fail
    refine HFM.out.mono ?_
    rintro e W5 ⟨rfl, hb5⟩
    have HX5 := Lib.hid (HX1.out.keep hb5)
    have HB5 := Lib.hid (HB1.out.trans (hb5.mono HB1.out.size))
    have d6 := HX5.out.two.1; have d7 := HX5.out.two.2
    clear hb5 c0 c1 HX1
    by_cases hf : m = n - 1
    · have hfd : decide (m = n - 1) = true := decide_eq_true hf
      have HF := Lib.hid hf
      by_cases h0 : n = 0
      · have HE : Hid (countZ cl gl r = 1) := by
          unfold Hid countZ; rw [if_neg (by omega), HM.out, HN.out, if_pos hf, if_pos h0]
        have hz0 : ((n : Int) == 0) = true := by simp; omega
        clear hf h0
        go_wp2
        go_ret
        exact ⟨ret_int (by rw [HE.out]; rfl), HB5.out⟩
      · have HE : Hid (countZ cl gl r = n + 2 * (q + 1) + sumS r gl) := by
          unfold Hid countZ; rw [if_neg (by omega), HM.out, HN.out, if_pos hf, if_neg h0, HQ.out]
        have hz0 : ((n : Int) == 0) = false := by simp; omega
        have HC : Hid (∀ j, Calls Try.prog 49 #[.int .i64 (r - 1)] (W5.drewN j) fun e w' => e = .returned (.int .i64 (q : Int)) ∧ w' = W5.drewN j) := fun j => (cap_any (r - 1) _).mono fun e w' h => by rw [HQ.out] at h; exact ⟨h.1, h.2.symm⟩
        clear hf h0
        go_wp2_with fail
        go_quiet ((go_at_call 49; exact Calls.quiet_of_same (HC.out _)))
        have HB6 := Lib.hid (below_drewN HB5.out nq)
        have HX6 := Lib.hid (HX5.out.drewN nq)
        obtain ⟨W6, hW6⟩ : ∃ W6, W5.drewN nq = W6 := ⟨_, rfl⟩
        rw [hW6] at HB6 HX6 ⊢
        have d8 := HX6.out.two.2
        have hm59 : m ≤ 59 := by have := HF.out; omega
        clear hW6 HC d6 d7
        go_wp2_with fail
        go_loopw [5, 7, 33] (fun nn _ i wr => ∃ (k s : Nat), k ≤ m ∧ i = .int .i64 k ∧ nn = .int .i64 s ∧ s ≤ 60 + 2 * 32 + k * 1024 ∧ Hid (Below w.heap.size w wr ∧ s = n + 2 * (q + 1) + sumS r (gl.take k))) (fun _ _ i _ => m - (intOf i).toNat)
        case atStart => exact ⟨0, n + 2 * (q + 1), Nat.zero_le _, rfl, int_eq (by omega), by omega, HB6.out, by simp [sumS]⟩
        case round =>
          clear HB6 HX6 d8
          obtain ⟨k, s, hk, rfl, rfl, hs, HH⟩ := hrel
          by_cases hlt : k < m
          · have hkm : (k : Int) < (m : Int) := by omega
            obtain ⟨x, hx⟩ : ∃ x, gl[k]? = some x := ⟨_, List.getElem?_eq_getElem (by rw [HM.out]; exact hlt)⟩
            have hin := (HZ.out.below HH.out.1).2
            rw [HM.out] at hin
            obtain ⟨gb, go, rfl, hgbl, hgc⟩ := hin.at (by omega)
            have cg : wr.cell? ⟨gb, go + k, none⟩ = some (.int .i64 x) := hgc k _ (by simp [ints, hx])
            have HSP := Lib.hid (splits_any x r wr (by omega))
            obtain ⟨p, hp⟩ : ∃ p, (splP x r).length = p := ⟨_, rfl⟩
            have hpl : p ≤ 1024 := by rw [← hp]; exact splP_len x r h1' hr2
            have hS : Hid (sumS r (gl.take (k + 1)) = sumS r (gl.take k) + p) := by
              unfold Hid
              obtain ⟨h1, h2⟩ := List.getElem?_eq_some_iff.1 hx
              rw [List.take_succ_eq_append_getElem h1, h2, sumS_snoc, hp]
            rw [hp] at HSP
            have HB := Lib.hid HH.out.1
            have HSE := Lib.hid HH.out.2
            clear hx hin hgc hp HH
            go_wp2_with fail
            refine HSP.out.mono ?_
            rintro e w7 ⟨sv, rfl, ho7, hb7⟩
            obtain ⟨sad, scap, hsv⟩ := owns_len ho7
            subst hsv
            have HB7 := Lib.hid (HB.out.trans (hb7.mono HB.out.size))
            clear ho7 hb7
            go_wp2_with fail
            go_roundw
            case rel => exact ⟨k + 1, s + p, by omega, by go_num, int_eq (by omega), by omega, HB7.out, by rw [hS.out, HSE.out]; omega⟩
            case measure => simp [intOf]; omega
          · obtain rfl : k = m := by omega
            have hE2 : Hid ((s : Int) = (countZ cl gl r : Int)) := by
              unfold Hid
              rw [HE.out, HH.out.2, show gl.take k = gl from by rw [← HM.out]; exact List.take_length]
            have HB := Lib.hid HH.out.1
            clear HH
            go_wp2
            go_ret
            exact ⟨ret_int hE2.out, HB.out⟩
    · have hfd : decide (m = n - 1) = false := decide_eq_false hf
      have HE : Hid (countZ cl gl r = 0) := by
        unfold Hid countZ; rw [if_neg (by omega), HM.out, HN.out, if_neg hf]
      clear hf
      go_wp2
      go_ret
      exact ⟨ret_int (by rw [HE.out]; rfl), HB5.out⟩

theorem headZ_len (cl : List (Int × Int)) (gl : List Int) (a r : Int) (l : List Int) : (headZ cl gl a r l).length = l.length := by simp [headZ]
theorem tailZ_len (cl : List (Int × Int)) (gl : List Int) (a r : Int) (l : List Int) : (tailZ cl gl a r l).length = l.length := by simp [tailZ]
theorem outL_len' (r : Int) (h1 : 1 ≤ r) : (outL r).length = kap (r - 1) + 1 := by unfold outL; rw [if_neg (by omega)]; simp
theorem midZ_sum (cl : List (Int × Int)) (gl : List Int) (a r : Int) : ∀ k, k ≤ cl.length → gl.length = cl.length - 1 → (midZ cl gl a r k).length = k + sumS r (gl.take k) := by
  intro k
  induction k with
  | zero => intro _ _; simp [midZ, sumS]
  | succ k ih =>
    intro hk hg
    rw [midZ_succ, List.length_append, ih (by omega) hg]
    unfold stepZ
    by_cases h : k + 1 < cl.length
    · rw [if_pos h]
      have hkg : k < gl.length := by omega
      rw [List.take_succ_eq_append_getElem hkg, sumS_snoc]
      simp only [List.length_cons, List.length_map, List.getD_eq_getElem?_getD, List.getElem?_eq_getElem hkg, Option.getD_some]
      omega
    · rw [if_neg h, List.take_of_length_le (by omega), List.take_of_length_le (by omega)]
      simp only [List.length_cons, List.length_nil]
      omega
/-- Count counts -/
theorem count_is (cl : List (Int × Int)) (gl : List Int) (a r : Int) (h : putL cl gl a r ≠ []) : countZ cl gl r = (putL cl gl a r).length := by
  unfold putL at *
  unfold countZ
  by_cases h1 : r < 1
  · rw [if_pos h1] at h; exact absurd rfl h
  rw [if_neg h1] at h ⊢
  by_cases h2 : bitZ a = 0
  · rw [if_pos h2] at h; exact absurd rfl h
  rw [if_neg h2] at h ⊢
  by_cases h3 : cl.any (fun c => hasB c.1 a) = true
  · rw [if_pos h3] at h; exact absurd rfl h
  rw [if_neg h3] at h ⊢
  by_cases h4 : gl.length = cl.length - 1
  · simp only [if_neg h1, if_pos h4]
    unfold putA
    by_cases h5 : cl.length = 0
    · rw [if_pos h5, if_pos h5]; rfl
    · rw [if_neg h5, if_neg h5, List.length_append, List.length_append, headZ_len, tailZ_len, List.length_reverse, outL_len' r (by omega), midZ_sum cl gl a r _ (Nat.le_refl _) h4, List.take_of_length_le (by omega)]
      omega
  · rw [if_neg h4] at h; exact absurd rfl h

end Go.Proofs.Ytjmggphnngffjaa
