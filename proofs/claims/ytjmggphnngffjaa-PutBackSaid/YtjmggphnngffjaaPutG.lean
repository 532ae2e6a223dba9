/- put.has, put.formed, put.Put. -/
import Derived.Test.YtjmggphnngffjaaPutF
namespace Go.Proofs.Ytjmggphnngffjaa
open Go.RowKit Go.Shelf

theorem RdK.cls {w : World} {ad : Option Addr} {n cap : Nat} {cl : List (Int × Int)} (h : RdK w 2 (.slice ad n cap) n (cellsP cl)) {k : Nat} {x y : Int} (hk : cl[k]? = some (x, y)) (hn : 0 < n) :
    ∃ b off, ad = some ⟨b, off, none⟩ ∧ b < w.heap.size ∧ w.cell? ⟨b, off + k * 2, none⟩ = some (.int .i64 x) ∧ w.cell? ⟨b, off + k * 2 + 1, none⟩ = some (.int .i64 y) := by
  obtain ⟨b, off, e, hb, hc⟩ := h.at hn
  have cx := cellsP_get _ _ _ hk
  exact ⟨b, off, e, hb, hc _ _ cx.1, by rw [Nat.add_assoc]; exact hc _ _ cx.2⟩

set_option maxRecDepth 100000 in
set_option maxHeartbeats 1000000 in
theorem hasC_any {w : World} {p : Nat} {x y a : Int} (hp : Blk w p #[.int .i64 a] 3) :
    Calls Try.prog 56 #[.agg #[.int .i64 x, .int .i64 y], .pointer (some ⟨p, 0, none⟩)] w fun e w' => e = .returned (.bool (hasB x a)) ∧ Below w.heap.size w w' := by
  have hb : Below w.heap.size w (w.alloc (.cells #[.int .i64 x, .int .i64 y] 63)) := (Below.refl _ _).alloc (Nat.le_refl _) _
  have c0 : w.cell? ⟨p, 0, none⟩ = some (.int .i64 a) := hp.cell rfl
  have hlt := hp.lt
  have HB := Lib.hid hb
  obtain ⟨q, hq⟩ : ∃ q, hasB x a = q := ⟨_, rfl⟩
  have HQ := Lib.hid hq
  rw [hq]
  clear hb hp hq
  go_enter Try.func56, Try.ntmps56
  go_wp2_with fail
  refine (has_any x a _).mono ?_
  rintro e w' ⟨rfl, rfl⟩
  rw [HQ.out]
  go_wp2
  go_ret
  exact ⟨rfl, HB.out⟩

set_option maxRecDepth 100000 in
set_option maxHeartbeats 2000000 in
theorem indexC_any {w : World} {p : Nat} {v : Value} {cl : List (Int × Int)} {a : Int} (hv : RdK w 2 v cl.length (cellsP cl)) (hp : Blk w p #[.int .i64 a] 3) (hl : cl.length ≤ 65536) :
    Calls Try.prog 72 #[v, .func (.func 56) #[] #[.pointer (some ⟨p, 0, none⟩)]] w fun e w' => ∃ m : Int, e = .returned (.int .i64 m) ∧ decide (0 ≤ m) = cl.any (fun c => hasB c.1 a) ∧ Below w.heap.size w w' := by
  obtain ⟨ad, cap, rfl⟩ := hv.len
  obtain ⟨n, hn⟩ : ∃ n, cl.length = n := ⟨_, rfl⟩
  have HN := Lib.hid hn
  rw [hn] at hv hl ⊢
  have HV := Lib.hid hv; have HP := Lib.hid hp
  clear hv hp hn
  go_enter Try.func72, Try.ntmps72
  go_wp2_with fail
  go_loopw [5, 8] (fun _ i wr => ∃ k : Nat, k ≤ n ∧ i = .int .i64 k ∧ Hid (Below w.heap.size w wr ∧ (cl.take k).any (fun c => hasB c.1 a) = false)) (fun _ i _ => n - (intOf i).toNat)
  case atStart => exact ⟨0, Nat.zero_le _, rfl, Below.refl _ _, rfl⟩
  case round =>
    obtain ⟨k, hk, rfl, HH⟩ := hrel
    by_cases hlt : k < n
    · have hkn : (k : Int) < (n : Int) := by omega
      obtain ⟨xy, hxy⟩ : ∃ xy, cl[k]? = some xy := ⟨_, List.getElem?_eq_getElem (by rw [HN.out]; exact hlt)⟩
      obtain ⟨x, y⟩ := xy
      obtain ⟨b, off, rfl, hb, d0, d1⟩ := (HV.out.below HH.out.1).cls hxy (by omega)
      have HC := Lib.hid (hasC_any (x := x) (y := y) (HP.out.keep HH.out.1))
      have hT : Hid ((cl.take (k + 1)).any (fun c => hasB c.1 a) = hasB x a) := by
        obtain ⟨h1, h2⟩ := List.getElem?_eq_some_iff.1 hxy
        unfold Hid
        rw [List.take_succ_eq_append_getElem h1, List.any_append, HH.out.2, h2]
        simp
      have hA : Hid (hasB x a = true → cl.any (fun c => hasB c.1 a) = true) := fun h => List.any_eq_true.2 ⟨(x, y), List.mem_of_getElem? hxy, h⟩
      obtain ⟨q, hq⟩ : ∃ q, hasB x a = q := ⟨_, rfl⟩
      rw [hq] at HC hT hA
      have HB := Lib.hid HH.out.1
      clear hxy hq HH
      go_wp2_with fail
      refine HC.out.mono ?_
      rintro e w5 ⟨rfl, hb5⟩
      have HB5 := Lib.hid (HB.out.trans (hb5.mono HB.out.size))
      clear hb5
      cases q
      · go_wp2
        go_roundw
        case rel => exact ⟨k + 1, by omega, by go_num, HB5.out, hT.out⟩
        case measure => simp [intOf]; omega
      · go_wp2
        go_ret
        exact ⟨(k : Int), rfl, by rw [hA.out (by trivial)]; simp, HB5.out⟩
    · obtain rfl : k = n := by omega
      have hF := HH.out.2
      rw [show cl.take k = cl from by rw [← HN.out]; exact List.take_length] at hF
      have HF := Lib.hid hF
      have HB := Lib.hid HH.out.1
      clear hF HH
      go_wp2
      go_ret
      exact ⟨-1, rfl, by rw [HF.out]; simp, HB.out⟩

set_option maxRecDepth 100000 in
set_option maxHeartbeats 2000000 in
theorem putHas_any {w : World} {v1 v2 : Value} {cl : List (Int × Int)} {gl : List Int} {a : Int} (hz : ZoneIn w v1 v2 cl gl) (hl : cl.length ≤ 65536) :
    Calls Try.prog 34 #[.agg #[v1, v2], .int .i64 a] w fun e w' => e = .returned (.bool (cl.any (fun c => hasB c.1 a))) ∧ Below w.heap.size w w' := by
  obtain ⟨ad1, k1, e1⟩ := hz.1.len
  obtain ⟨ad2, k2, e2⟩ := hz.2.len
  obtain ⟨W1, hW1⟩ : ∃ W1, w.alloc (.cells #[v1, v2] 45) = W1 := ⟨_, rfl⟩
  have hb1 : Below w.heap.size w W1 := by rw [← hW1]; exact (Below.refl _ _).alloc (Nat.le_refl _) _
  have hs1 : W1.heap.size = w.heap.size + 1 := by rw [← hW1]; simp
  have x1 : Blk W1 w.heap.size #[v1, v2] 45 := by rw [← hW1]; exact Blk.new _ _ _
  obtain ⟨W2, hW2⟩ : ∃ W2, W1.alloc (.cells #[.int .i64 a] 3) = W2 := ⟨_, rfl⟩
  have hs2 : W2.heap.size = w.heap.size + 2 := by rw [← hW2]; simp [hs1]
  have x2 : Blk W2 (w.heap.size + 1) #[.int .i64 a] 3 := by rw [← hW2, ← hs1]; exact Blk.new _ _ _
  have hb2 : Below w.heap.size w W2 := by rw [← hW2]; exact hb1.alloc (by omega) _
  have x12 : Blk W2 w.heap.size #[v1, v2] 45 := by rw [← hW2]; exact x1.alloc _
  have c0 := x12.two.1
  have HI := Lib.hid (indexC_any (a := a) (hz.below hb2).1 x2 hl)
  have HB := Lib.hid hb2
  obtain ⟨q, hq⟩ : ∃ q, cl.any (fun c => hasB c.1 a) = q := ⟨_, rfl⟩
  rw [hq] at HI ⊢
  subst e1; subst e2
  have HCF : Hid (Calls Try.prog 55 #[.slice ad1 cl.length k1, .func (.func 56) #[] #[.pointer (some ⟨w.heap.size + 1, 0, none⟩)]] W2 fun e w' => e = .returned (.bool q) ∧ Below W2.heap.size W2 w') := by
    unfold Hid
    clear hz hb1 x1 x2 hb2 x12 hq hW1 hW2 hs1 hs2 c0
    obtain ⟨n, hn⟩ : ∃ n, cl.length = n := ⟨_, rfl⟩
    rw [hn] at HI ⊢
    go_enter Try.func55, Try.ntmps55
    go_wp2_with fail
    refine HI.out.mono ?_
    rintro e w5 ⟨m, rfl, hm, hb5⟩
    have HB5 := Lib.hid hb5
    have HMM := Lib.hid hm
    clear hb5 hm
    go_wp2
    go_ret
    exact ⟨ret_bool HMM.out, HB5.out⟩
  obtain ⟨n, hn⟩ : ∃ n, cl.length = n := ⟨_, rfl⟩
  obtain ⟨m, hm⟩ : ∃ m, gl.length = m := ⟨_, rfl⟩
  rw [hn] at c0
  rw [hn, hm] at hW1
  rw [hn] at HCF
  rw [hn, hm]
  clear hz hb1 x1 x2 hb2 x12 hq HI
  go_enter Try.func34, Try.ntmps34
  go_wp2_with fail
  refine HCF.out.mono ?_
  rintro e w5 ⟨rfl, hb5⟩
  have HB5 := Lib.hid (HB.out.trans (hb5.mono HB.out.size))
  clear hb5
  go_wp2
  go_ret
  exact ⟨rfl, HB5.out⟩

set_option maxHeartbeats 400000 in
theorem putFormed_any {w : World} {v1 v2 : Value} {cl : List (Int × Int)} {gl : List Int} (hz : ZoneIn w v1 v2 cl gl) (hcl : cl.length ≤ 65536) :
    Calls Try.prog 35 #[.agg #[v1, v2]] w fun e w' => e = .returned (.bool (decide (gl.length = cl.length - 1))) ∧ Below w.heap.size w w' := by
  obtain ⟨ad1, cap1, rfl⟩ := hz.1.len
  obtain ⟨ad2, cap2, rfl⟩ := hz.2.len
  obtain ⟨n, hn⟩ : ∃ n, cl.length = n := ⟨_, rfl⟩
  obtain ⟨m, hm⟩ : ∃ m, gl.length = m := ⟨_, rfl⟩
  rw [hn] at hcl ⊢; rw [hm]
  clear hz hn hm
  have hcase : n = 0 ∨ n = 1 ∨ 1 < n := by omega
  rcases hcase with rfl | rfl | h1
  all_goals
    go_enter Try.func35, Try.ntmps35
    go_wp2
    go_ret
    refine ⟨ret_bool ?_, (Below.refl _ w).alloc (Nat.le_refl _) _⟩
    rw [Bool.eq_iff_iff]
    simp
    try omega

end Go.Proofs.Ytjmggphnngffjaa
