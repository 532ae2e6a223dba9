/- Contract of warderref02's one: a number. Contract of warderref02's one: a sign. -/
import Derived.Test.YtignjhbajjephaaGreatDoorCr41

namespace Go.Proofs.YtignjhbajjephaaGreatDoor
open Go.RowKit

theorem num_numT {s : ByteArray} {L : List Rn} {i : Nat} (hO : RnOk s L) (hi : i < L.length) (hl : isNum L i = true) : NumT (txt s L i (numN L i)) := by
  obtain ⟨_, _, h0, hd, _⟩ := num_pre hO hi hl
  intro k hk
  by_cases h : ((txt s L i (numN L i))[0]'h0).toNat = 45
  · rw [if_pos h] at hd
    cases k with
    | zero => exact .inl h
    | succ k =>
      have hk' : k < ((txt s L i (numN L i)).extract 1 (txt s L i (numN L i)).size).size := by rw [ByteArray.size_extract]; omega
      have := hd k hk'
      rw [ByteArray.getElem_extract] at this
      have e : 1 + k = k + 1 := by omega
      simp only [e] at this
      exact .inr this
  · rw [if_neg h] at hd
    exact .inr (hd k hk)

set_option maxHeartbeats 8000000 in
theorem rone_num1 {w : World} {v : Value} {s : ByteArray} {L : List Rn} {i : Nat} (h : RR w v L) (hO : RnOk s L) (hs : s.size ≤ 4294967200) (hi : i < L.length) (hl : letterB (rAt L i) = false) (hdig : digitB (rAt L i) = true) :
    Calls Tryz.prog 18 #[.string s, v, .int .i64 i] w (ROne w ⟨3, txt s L i (numN L i), (numVal s L i).1, lineAt L i, colAt L i⟩ (i + numN L i) (if (numVal s L i).2 then 0 else 2)) := by
  obtain ⟨x, hx⟩ : ∃ x, L[i]? = some x := ⟨_, List.getElem?_eq_getElem hi⟩
  have hisn : isNum L i = true := by unfold isNum; rw [hdig]; rfl
  obtain ⟨⟨y, hy⟩, hn1, h0, hdq, hq⟩ := num_pre hO hi hisn
  have hNT := num_numT hO hi hisn
  obtain ⟨hg1, hg2⟩ := hO.le _ _ x y (by omega) hx hy
  have hL := hO.len
  rw [(at_some hx).2.2.2.1, (at_some hx).2.2.2.2]
  have hsm0 : smallB (rAt L i) = false := by unfold letterB at hl; simp at hl; exact hl.1
  have hgr0 : greatB (rAt L i) = false := by unfold letterB at hl; simp at hl; exact hl.2
  obtain ⟨g, cap, hv, d0, d1, d2, d3, d4⟩ := h.rune hx
  subst hv
  have hgl := World.block_lt_of_cell? w _ d0
  have hc : x.r = rAt L i := (rAt_some hx).symm
  obtain ⟨c, hcc⟩ : ∃ c, rAt L i = c := ⟨_, rfl⟩
  rw [hcc] at hc hsm0 hgr0
  rw [hc] at d0
  have HSM := Lib.hid hsm0
  have HGR := Lib.hid hgr0
  have HR := Lib.hid h
  have HC := Lib.hid hcc
  have hiz : (i : Int) < (L.length : Int) := by omega
  obtain ⟨g', cap', hv', _, _, e2, _, _⟩ := h.rune hy
  simp only [Value.slice.injEq, Option.some.injEq, Addr.mk.injEq, true_and, and_true] at hv'
  obtain ⟨rfl, rfl⟩ := hv'
  have hte : s.extract x.fr y.to = txt s L i (numN L i) := by unfold txt; rw [(at_some hx).2.1, (at_some hy).2.2.1]
  have hts : (txt s L i (numN L i)).size ≤ s.size := by rw [← hte, ByteArray.size_extract]; omega
  have hval := fun W => rvalue_any (txt s L i (numN L i)) W (by omega) h0 hNT
  have hdd : decide (((txt s L i (numN L i))[0]'h0).toNat = 45) = decide (rAt L i = 45) := by simp only [hq]
  rw [hdd] at hval
  obtain ⟨⟨vn, ok⟩, hvv⟩ : ∃ vv, valN (txt s L i (numN L i)) (decide (rAt L i = 45)) = vv := ⟨_, rfl⟩
  have hnv : numVal s L i = (vn, ok) := hvv
  rw [hvv] at hval
  have HV := Lib.hid hval
  have HNV := Lib.hid hnv
  have hrow : rowE digitB L (i + 1) = i + numN L i := by unfold numN at *; omega
  have hrl : numN L i + i ≤ L.length := by unfold numN; have := (rowE_ge digitB L (i + 1)).2 (by omega); omega
  have HT0 := Lib.hid (show txt s L i (numN L i) = txt s L i (numN L i) from rfl)
  obtain ⟨t, ht⟩ : ∃ t, txt s L i (numN L i) = t := ⟨_, rfl⟩
  obtain ⟨n, hnn⟩ : ∃ n, numN L i = n := ⟨_, rfl⟩
  rw [ht] at hte hts HV ⊢
  rw [hnn] at hn1 hrow hy e2 hrl ⊢
  rw [hnv]
  obtain ⟨er, her⟩ : ∃ er : Int, (if ok = true then (0 : Int) else 2) = er := ⟨_, rfl⟩
  show Calls _ _ _ _ (ROne w ⟨3, t, vn, _, _⟩ _ (if ok = true then (0 : Int) else 2))
  rw [her]
  have HER := Lib.hid her
  clear her
  clear ht hnn hval hvv hdd hdq hq hNT hnv HT0 hisn h0
  have HI := Lib.hid hte
  have HROW := Lib.hid hrow
  clear hte hrow
  have hjl := (List.getElem?_eq_some_iff.1 hy).1
  have hjz : (i : Int) + n - 1 < (L.length : Int) := by omega
  have hjz0 : (0 : Int) ≤ (i : Int) + n - 1 := by omega
  have hq1 : (1 : Int) ≤ (i : Int) + n := by omega
  have hjt : ((i : Int) + (n : Int) - 1).toNat = i + (n - 1) := by omega
  have hw2 : IntKind.i64.wrap ((i : Int) + (n : Int) - 1) = (i : Int) + n - 1 := IntWalk.i64_in _ (by omega)
  have hne : ((i : Int) + (n : Int) == (i : Int)) = false := beq_eq_false_iff_ne.2 (by omega)
  have hxz : (x.fr : Int) ≤ (y.to : Int) := by omega
  have hyz : (y.to : Int) ≤ (s.size : Int) := by omega
  have hfz : ¬ (y.to : Int) < (x.fr : Int) := by omega
  clear hjl hy
  have HD := Lib.hid (show digitB c = true by rw [← hcc]; exact hdig)
  clear hdig
  clear hl hsm0 hgr0 h hO hx hc hi hcc
  go_enter Tryz.func18, Tryz.ntmps18
  go_wp2_with fail
  refine (rsmallB_any c _).mono ?_
  rintro e w' ⟨rfl, rfl⟩
  rw [HSM.out]
  go_wp2_with fail
  refine (rgreatB_any c _).mono ?_
  rintro e w' ⟨rfl, rfl⟩
  rw [HGR.out]
  go_wp2_with fail
  refine (rdigitB_any c _).mono ?_
  rintro e w' ⟨rfl, rfl⟩
  rw [HD.out]
  go_wp2_with fail
  go_loop [11] (fun u => ∃ k : Nat, u = .int .i64 k ∧ k ≤ i + n ∧ Hid (rowE digitB L (i + 1) = rowE digitB L k)) (fun u => i + n - (intOf u).toNat)
  case atStart => exact ⟨i + 1, by go_num, by omega, rfl⟩
  case round =>
    obtain ⟨k, rfl, hk, HE⟩ := hrel
    cases hdk : digitB (rAt L k)
    · have hkn : k = i + n := by rw [← HROW.out, HE.out, rowE_no _ _ _ hdk]
      have HDK := Lib.hid hdk
      subst hkn
      clear hdk
      go_wp2_with fail
      refine (rat_any (HR.out.keep ((Below.refl _ _).alloc (Nat.le_refl _) _ |>.alloc (by simp) _)) _ (by omega) (by omega)).mono ?_
      rintro e w' ⟨rfl, rfl⟩
      rw [show ((i : Int) + (n : Int)).toNat = i + n by omega]
      go_wp2_with fail
      refine (rdigitB_any _ _).mono ?_
      rintro e w' ⟨rfl, rfl⟩
      rw [HDK.out]
      go_wp2_with fail
      go_region_held3 (fun w' => w'.cell? ⟨g, i * 5 + 1, none⟩ = some (.int .i64 x.fr) ∧ w'.cell? ⟨g, (i + (n - 1)) * 5 + 2, none⟩ = some (.int .i64 y.to))
        (first | go_keep)
        (first | fail)
      rw [HI.out]
      go_wp2_with fail
      refine (HV.out _).mono ?_
      rintro e w' ⟨rfl, rfl⟩
      cases ok
      · go_wp2
        exact bodyPost_ret (v := .tuple #[tkV ⟨3, t, vn, x.line, x.col⟩, .int .i64 ((i : Int) + n), .int .i64 2]) (by simp [results, Tryz.results18, go_sem, tkV]) rfl ⟨by rw [← HER.out]; rfl, by repeat (first | exact Below.refl _ _ | apply Below.drew | refine Below.alloc ?_ (by simp; try omega) _)⟩
      · go_wp2
        exact bodyPost_ret (v := .tuple #[tkV ⟨3, t, vn, x.line, x.col⟩, .int .i64 ((i : Int) + n), .int .i64 0]) (by simp [results, Tryz.results18, go_sem, tkV]) rfl ⟨by rw [← HER.out]; rfl, by repeat (first | exact Below.refl _ _ | apply Below.drew | refine Below.alloc ?_ (by simp; try omega) _)⟩
    · have HDK := Lib.hid hdk
      have HE2 : Hid (rowE digitB L (i + 1) = rowE digitB L (k + 1)) := by unfold Hid; rw [HE.out, rowE_yes _ (by decide) _ _ hdk]
      have hk2 : k + 1 ≤ i + n := by rw [← HROW.out, HE2.out]; exact (rowE_ge _ _ _).1
      clear hdk
      go_wp2_with fail
      refine (rat_any (HR.out.keep ((Below.refl _ _).alloc (Nat.le_refl _) _ |>.alloc (by simp) _)) _ (by omega) (by omega)).mono ?_
      rintro e w' ⟨rfl, rfl⟩
      rw [Int.toNat_natCast]
      go_wp2_with fail
      refine (rdigitB_any _ _).mono ?_
      rintro e w' ⟨rfl, rfl⟩
      rw [HDK.out]
      go_wp2
      go_round
      case rel => exact ⟨k + 1, by go_num, hk2, HE2⟩
      case measure => simp [intOf]; omega

set_option maxHeartbeats 8000000 in
theorem rone_num2 {w : World} {v : Value} {s : ByteArray} {L : List Rn} {i : Nat} (h : RR w v L) (hO : RnOk s L) (hs : s.size ≤ 4294967200) (hi : i < L.length) (hl : letterB (rAt L i) = false) (hdig : digitB (rAt L i) = false) (h45 : rAt L i = 45) (hd1 : digitB (rAt L (i + 1)) = true) :
    Calls Tryz.prog 18 #[.string s, v, .int .i64 i] w (ROne w ⟨3, txt s L i (numN L i), (numVal s L i).1, lineAt L i, colAt L i⟩ (i + numN L i) (if (numVal s L i).2 then 0 else 2)) := by
  obtain ⟨x, hx⟩ : ∃ x, L[i]? = some x := ⟨_, List.getElem?_eq_getElem hi⟩
  have hisn : isNum L i = true := by unfold isNum; rw [hdig, h45, hd1]; rfl
  obtain ⟨⟨y, hy⟩, hn1, h0, hdq, hq⟩ := num_pre hO hi hisn
  have hNT := num_numT hO hi hisn
  obtain ⟨hg1, hg2⟩ := hO.le _ _ x y (by omega) hx hy
  have hL := hO.len
  rw [(at_some hx).2.2.2.1, (at_some hx).2.2.2.2]
  have hsm0 : smallB (rAt L i) = false := by unfold letterB at hl; simp at hl; exact hl.1
  have hgr0 : greatB (rAt L i) = false := by unfold letterB at hl; simp at hl; exact hl.2
  obtain ⟨g, cap, hv, d0, d1, d2, d3, d4⟩ := h.rune hx
  subst hv
  have hgl := World.block_lt_of_cell? w _ d0
  have hc : x.r = rAt L i := (rAt_some hx).symm
  obtain ⟨c, hcc⟩ : ∃ c, rAt L i = c := ⟨_, rfl⟩
  rw [hcc] at hc hsm0 hgr0
  rw [hc] at d0
  have HSM := Lib.hid hsm0
  have HGR := Lib.hid hgr0
  have HR := Lib.hid h
  have HC := Lib.hid hcc
  have hiz : (i : Int) < (L.length : Int) := by omega
  obtain ⟨g', cap', hv', _, _, e2, _, _⟩ := h.rune hy
  simp only [Value.slice.injEq, Option.some.injEq, Addr.mk.injEq, true_and, and_true] at hv'
  obtain ⟨rfl, rfl⟩ := hv'
  have hte : s.extract x.fr y.to = txt s L i (numN L i) := by unfold txt; rw [(at_some hx).2.1, (at_some hy).2.2.1]
  have hts : (txt s L i (numN L i)).size ≤ s.size := by rw [← hte, ByteArray.size_extract]; omega
  have hval := fun W => rvalue_any (txt s L i (numN L i)) W (by omega) h0 hNT
  have hdd : decide (((txt s L i (numN L i))[0]'h0).toNat = 45) = decide (rAt L i = 45) := by simp only [hq]
  rw [hdd] at hval
  obtain ⟨⟨vn, ok⟩, hvv⟩ : ∃ vv, valN (txt s L i (numN L i)) (decide (rAt L i = 45)) = vv := ⟨_, rfl⟩
  have hnv : numVal s L i = (vn, ok) := hvv
  rw [hvv] at hval
  have HV := Lib.hid hval
  have HNV := Lib.hid hnv
  have hrow : rowE digitB L (i + 1) = i + numN L i := by unfold numN at *; omega
  have hrl : numN L i + i ≤ L.length := by unfold numN; have := (rowE_ge digitB L (i + 1)).2 (by omega); omega
  have HT0 := Lib.hid (show txt s L i (numN L i) = txt s L i (numN L i) from rfl)
  obtain ⟨t, ht⟩ : ∃ t, txt s L i (numN L i) = t := ⟨_, rfl⟩
  obtain ⟨n, hnn⟩ : ∃ n, numN L i = n := ⟨_, rfl⟩
  rw [ht] at hte hts HV ⊢
  rw [hnn] at hn1 hrow hy e2 hrl ⊢
  rw [hnv]
  obtain ⟨er, her⟩ : ∃ er : Int, (if ok = true then (0 : Int) else 2) = er := ⟨_, rfl⟩
  show Calls _ _ _ _ (ROne w ⟨3, t, vn, _, _⟩ _ (if ok = true then (0 : Int) else 2))
  rw [her]
  have HER := Lib.hid her
  clear her
  clear ht hnn hval hvv hdd hdq hq hNT hnv HT0 hisn h0
  have HI := Lib.hid hte
  have HROW := Lib.hid hrow
  clear hte hrow
  have hjl := (List.getElem?_eq_some_iff.1 hy).1
  have hjz : (i : Int) + n - 1 < (L.length : Int) := by omega
  have hjz0 : (0 : Int) ≤ (i : Int) + n - 1 := by omega
  have hq1 : (1 : Int) ≤ (i : Int) + n := by omega
  have hjt : ((i : Int) + (n : Int) - 1).toNat = i + (n - 1) := by omega
  have hw2 : IntKind.i64.wrap ((i : Int) + (n : Int) - 1) = (i : Int) + n - 1 := IntWalk.i64_in _ (by omega)
  have hne : ((i : Int) + (n : Int) == (i : Int)) = false := beq_eq_false_iff_ne.2 (by omega)
  have hxz : (x.fr : Int) ≤ (y.to : Int) := by omega
  have hyz : (y.to : Int) ≤ (s.size : Int) := by omega
  have hfz : ¬ (y.to : Int) < (x.fr : Int) := by omega
  clear hjl hy
  have HD := Lib.hid (show digitB c = false by rw [← hcc]; exact hdig)
  obtain ⟨d, hd⟩ : ∃ d, rAt L (i + 1) = d := ⟨_, rfl⟩
  rw [hd] at hd1
  have HD1 := Lib.hid hd
  have HD2 := Lib.hid hd1
  have H45 : Hid (c = 45) := by unfold Hid; rw [← hcc]; exact h45
  clear hdig hd hd1 h45
  clear hl hsm0 hgr0 h hO hx hc hi hcc
  go_enter Tryz.func18, Tryz.ntmps18
  go_wp2_with fail
  refine (rsmallB_any c _).mono ?_
  rintro e w' ⟨rfl, rfl⟩
  rw [HSM.out]
  go_wp2_with fail
  refine (rgreatB_any c _).mono ?_
  rintro e w' ⟨rfl, rfl⟩
  rw [HGR.out]
  go_wp2_with fail
  refine (rdigitB_any c _).mono ?_
  rintro e w' ⟨rfl, rfl⟩
  rw [HD.out]
  obtain rfl : c = 45 := H45.out
  go_wp2_with fail
  refine (rat_any (HR.out.keep ((Below.refl _ _).alloc (Nat.le_refl _) _ |>.alloc (by simp) _)) _ (by omega) (by omega)).mono ?_
  rintro e w' ⟨rfl, rfl⟩
  rw [show ((i : Int) + 1).toNat = i + 1 by omega, HD1.out]
  go_wp2_with fail
  refine (rdigitB_any d _).mono ?_
  rintro e w' ⟨rfl, rfl⟩
  rw [HD2.out]
  go_wp2_with fail
  go_loop [11] (fun u => ∃ k : Nat, u = .int .i64 k ∧ k ≤ i + n ∧ Hid (rowE digitB L (i + 1) = rowE digitB L k)) (fun u => i + n - (intOf u).toNat)
  case atStart => exact ⟨i + 1, by go_num, by omega, rfl⟩
  case round =>
    obtain ⟨k, rfl, hk, HE⟩ := hrel
    cases hdk : digitB (rAt L k)
    · have hkn : k = i + n := by rw [← HROW.out, HE.out, rowE_no _ _ _ hdk]
      have HDK := Lib.hid hdk
      subst hkn
      clear hdk
      go_wp2_with fail
      refine (rat_any (HR.out.keep ((Below.refl _ _).alloc (Nat.le_refl _) _ |>.alloc (by simp) _)) _ (by omega) (by omega)).mono ?_
      rintro e w' ⟨rfl, rfl⟩
      rw [show ((i : Int) + (n : Int)).toNat = i + n by omega]
      go_wp2_with fail
      refine (rdigitB_any _ _).mono ?_
      rintro e w' ⟨rfl, rfl⟩
      rw [HDK.out]
      go_wp2_with fail
      go_region_held3 (fun w' => w'.cell? ⟨g, i * 5 + 1, none⟩ = some (.int .i64 x.fr) ∧ w'.cell? ⟨g, (i + (n - 1)) * 5 + 2, none⟩ = some (.int .i64 y.to))
        (first | go_keep)
        (first | fail)
      rw [HI.out]
      go_wp2_with fail
      refine (HV.out _).mono ?_
      rintro e w' ⟨rfl, rfl⟩
      cases ok
      · go_wp2
        exact bodyPost_ret (v := .tuple #[tkV ⟨3, t, vn, x.line, x.col⟩, .int .i64 ((i : Int) + n), .int .i64 2]) (by simp [results, Tryz.results18, go_sem, tkV]) rfl ⟨by rw [← HER.out]; rfl, by repeat (first | exact Below.refl _ _ | apply Below.drew | refine Below.alloc ?_ (by simp; try omega) _)⟩
      · go_wp2
        exact bodyPost_ret (v := .tuple #[tkV ⟨3, t, vn, x.line, x.col⟩, .int .i64 ((i : Int) + n), .int .i64 0]) (by simp [results, Tryz.results18, go_sem, tkV]) rfl ⟨by rw [← HER.out]; rfl, by repeat (first | exact Below.refl _ _ | apply Below.drew | refine Below.alloc ?_ (by simp; try omega) _)⟩
    · have HDK := Lib.hid hdk
      have HE2 : Hid (rowE digitB L (i + 1) = rowE digitB L (k + 1)) := by unfold Hid; rw [HE.out, rowE_yes _ (by decide) _ _ hdk]
      have hk2 : k + 1 ≤ i + n := by rw [← HROW.out, HE2.out]; exact (rowE_ge _ _ _).1
      clear hdk
      go_wp2_with fail
      refine (rat_any (HR.out.keep ((Below.refl _ _).alloc (Nat.le_refl _) _ |>.alloc (by simp) _)) _ (by omega) (by omega)).mono ?_
      rintro e w' ⟨rfl, rfl⟩
      rw [Int.toNat_natCast]
      go_wp2_with fail
      refine (rdigitB_any _ _).mono ?_
      rintro e w' ⟨rfl, rfl⟩
      rw [HDK.out]
      go_wp2
      go_round
      case rel => exact ⟨k + 1, by go_num, hk2, HE2⟩
      case measure => simp [intOf]; omega

end Go.Proofs.YtignjhbajjephaaGreatDoor

namespace Go.Proofs.YtignjhbajjephaaGreatDoor
open Go.RowKit

theorem sign_end {L : List Rn} {i : Nat} (hi : i < L.length) (_hz : signN (rAt L i) (rAt L (i + 1)) ≠ 0) : ∃ y, L[i + (signN (rAt L i) (rAt L (i + 1)) - 1)]? = some y := by
  have h : i + (signN (rAt L i) (rAt L (i + 1)) - 1) < L.length := by
    unfold signN
    by_cases hq : (rAt L i = 60 ∨ rAt L i = 62 ∨ rAt L i = 33) ∧ rAt L (i + 1) = 61
    · rw [if_pos hq]
      have : i + 1 < L.length := by
        by_cases hl : i + 1 < L.length
        · exact hl
        · rw [rAt_none (L := L) (i := i + 1) (by omega)] at hq; omega
      omega
    · rw [if_neg hq]
      split <;> omega
  exact ⟨_, List.getElem?_eq_getElem h⟩

set_option maxHeartbeats 8000000 in
theorem rone_sign45z {w : World} {v : Value} {s : ByteArray} {L : List Rn} {i : Nat} (h : RR w v L) (hO : RnOk s L) (_hs : s.size ≤ 4294967200) (hi : i < L.length) (hl : letterB (rAt L i) = false) (hdig : digitB (rAt L i) = false) (h45 : rAt L i = 45) (hd1 : digitB (rAt L (i + 1)) = false) (hz : signN (rAt L i) (rAt L (i + 1)) = 0) :
    Calls Tryz.prog 18 #[.string s, v, .int .i64 i] w (ROne w ⟨4, ⟨#[]⟩, 0, lineAt L i, colAt L i⟩ i 1) := by
  obtain ⟨x, hx⟩ : ∃ x, L[i]? = some x := ⟨_, List.getElem?_eq_getElem hi⟩
  have HN := Lib.hid hz
  clear hz
  have hL := hO.len
  rw [(at_some hx).2.2.2.1, (at_some hx).2.2.2.2]
  have hsm0 : smallB (rAt L i) = false := by unfold letterB at hl; simp at hl; exact hl.1
  have hgr0 : greatB (rAt L i) = false := by unfold letterB at hl; simp at hl; exact hl.2
  obtain ⟨g, cap, hv, d0, d1, d2, d3, d4⟩ := h.rune hx
  subst hv
  have hgl := World.block_lt_of_cell? w _ d0
  have hc : x.r = rAt L i := (rAt_some hx).symm
  obtain ⟨c, hcc⟩ : ∃ c, rAt L i = c := ⟨_, rfl⟩
  rw [hcc] at hc hsm0 hgr0
  rw [hc] at d0
  have HSM := Lib.hid hsm0
  have HGR := Lib.hid hgr0
  have HR := Lib.hid h
  have HC := Lib.hid hcc
  have hiz : (i : Int) < (L.length : Int) := by omega
  have HD := Lib.hid (show digitB c = false by rw [← hcc]; exact hdig)
  obtain ⟨d, hd⟩ : ∃ d, rAt L (i + 1) = d := ⟨_, rfl⟩
  rw [hd] at hd1
  have HD1 := Lib.hid hd
  have HD2 := Lib.hid hd1
  have H45 : Hid (c = 45) := by unfold Hid; rw [← hcc]; exact h45
  clear hdig hd hd1 h45
  clear hl hsm0 hgr0 h hO hx hc hi hcc
  go_enter Tryz.func18, Tryz.ntmps18
  go_wp2_with fail
  refine (rsmallB_any c _).mono ?_
  rintro e w' ⟨rfl, rfl⟩
  rw [HSM.out]
  go_wp2_with fail
  refine (rgreatB_any c _).mono ?_
  rintro e w' ⟨rfl, rfl⟩
  rw [HGR.out]
  go_wp2_with fail
  refine (rdigitB_any c _).mono ?_
  rintro e w' ⟨rfl, rfl⟩
  rw [HD.out]
  obtain rfl : c = 45 := H45.out
  go_wp2_with fail
  refine (rat_any (HR.out.keep ((Below.refl _ _).alloc (Nat.le_refl _) _ |>.alloc (by simp) _)) _ (by omega) (by omega)).mono ?_
  rintro e w' ⟨rfl, rfl⟩
  rw [show ((i : Int) + 1).toNat = i + 1 by omega, HD1.out]
  go_wp2_with fail
  refine (rdigitB_any d _).mono ?_
  rintro e w' ⟨rfl, rfl⟩
  rw [HD2.out]
  go_wp2_with fail
  refine (rsign_any (HR.out.keep ((Below.refl _ _).alloc (Nat.le_refl _) _ |>.alloc (by simp) _)) i (by omega)).mono ?_
  rintro e w' ⟨rfl, rfl⟩
  rw [HN.out]
  go_wp2
  exact bodyPost_ret (v := .tuple #[tkV ⟨4, ⟨#[]⟩, 0, x.line, x.col⟩, .int .i64 i, .int .i64 1]) (by simp [results, Tryz.results18, go_sem, tkV]) rfl ⟨rfl, by repeat (first | exact Below.refl _ _ | apply Below.drew | refine Below.alloc ?_ (by simp; try omega) _)⟩

set_option maxHeartbeats 8000000 in
theorem rone_sign45 {w : World} {v : Value} {s : ByteArray} {L : List Rn} {i : Nat} (h : RR w v L) (hO : RnOk s L) (_hs : s.size ≤ 4294967200) (hi : i < L.length) (hl : letterB (rAt L i) = false) (hdig : digitB (rAt L i) = false) (h45 : rAt L i = 45) (hd1 : digitB (rAt L (i + 1)) = false) (hz : signN (rAt L i) (rAt L (i + 1)) ≠ 0) :
    Calls Tryz.prog 18 #[.string s, v, .int .i64 i] w (ROne w ⟨4, txt s L i (signN (rAt L i) (rAt L (i + 1))), 0, lineAt L i, colAt L i⟩ (i + signN (rAt L i) (rAt L (i + 1))) 0) := by
  obtain ⟨x, hx⟩ : ∃ x, L[i]? = some x := ⟨_, List.getElem?_eq_getElem hi⟩
  have hn1 : 1 ≤ signN (rAt L i) (rAt L (i + 1)) := by omega
  obtain ⟨y, hy⟩ := sign_end hi hz
  obtain ⟨hg1, hg2⟩ := hO.le _ _ x y (by omega) hx hy
  have hL := hO.len
  rw [(at_some hx).2.2.2.1, (at_some hx).2.2.2.2]
  have hsm0 : smallB (rAt L i) = false := by unfold letterB at hl; simp at hl; exact hl.1
  have hgr0 : greatB (rAt L i) = false := by unfold letterB at hl; simp at hl; exact hl.2
  obtain ⟨g, cap, hv, d0, d1, d2, d3, d4⟩ := h.rune hx
  subst hv
  have hgl := World.block_lt_of_cell? w _ d0
  have hc : x.r = rAt L i := (rAt_some hx).symm
  obtain ⟨c, hcc⟩ : ∃ c, rAt L i = c := ⟨_, rfl⟩
  rw [hcc] at hc hsm0 hgr0
  rw [hc] at d0
  have HSM := Lib.hid hsm0
  have HGR := Lib.hid hgr0
  have HR := Lib.hid h
  have HC := Lib.hid hcc
  have hiz : (i : Int) < (L.length : Int) := by omega
  obtain ⟨g', cap', hv', _, _, e2, _, _⟩ := h.rune hy
  simp only [Value.slice.injEq, Option.some.injEq, Addr.mk.injEq, true_and, and_true] at hv'
  obtain ⟨rfl, rfl⟩ := hv'
  have hte : s.extract x.fr y.to = txt s L i (signN (rAt L i) (rAt L (i + 1))) := by unfold txt; rw [(at_some hx).2.1, (at_some hy).2.2.1]
  have hts : (txt s L i (signN (rAt L i) (rAt L (i + 1)))).size ≤ s.size := by rw [← hte, ByteArray.size_extract]; omega
  have hn2 : signN (rAt L i) (rAt L (i + 1)) ≤ 2 := by unfold signN; split <;> (try split) <;> omega
  obtain ⟨t, ht⟩ : ∃ t, txt s L i (signN (rAt L i) (rAt L (i + 1))) = t := ⟨_, rfl⟩
  obtain ⟨n, hnn⟩ : ∃ n, signN (rAt L i) (rAt L (i + 1)) = n := ⟨_, rfl⟩
  rw [ht] at hte hts ⊢
  rw [hnn] at hn1 hn2 hy e2 ⊢
  have HN := Lib.hid hnn
  clear ht hnn hz
  have HI := Lib.hid hte
  clear hte
  have hjl := (List.getElem?_eq_some_iff.1 hy).1
  have hjz : (i : Int) + n - 1 < (L.length : Int) := by omega
  have hjz0 : (0 : Int) ≤ (i : Int) + n - 1 := by omega
  have hq1 : (1 : Int) ≤ (i : Int) + n := by omega
  have hjt : ((i : Int) + (n : Int) - 1).toNat = i + (n - 1) := by omega
  have hw2 : IntKind.i64.wrap ((i : Int) + (n : Int) - 1) = (i : Int) + n - 1 := IntWalk.i64_in _ (by omega)
  have hne : ((i : Int) + (n : Int) == (i : Int)) = false := beq_eq_false_iff_ne.2 (by omega)
  have hxz : (x.fr : Int) ≤ (y.to : Int) := by omega
  have hyz : (y.to : Int) ≤ (s.size : Int) := by omega
  have hfz : ¬ (y.to : Int) < (x.fr : Int) := by omega
  clear hjl hy
  have HD := Lib.hid (show digitB c = false by rw [← hcc]; exact hdig)
  obtain ⟨d, hd⟩ : ∃ d, rAt L (i + 1) = d := ⟨_, rfl⟩
  rw [hd] at hd1
  have HD1 := Lib.hid hd
  have HD2 := Lib.hid hd1
  have H45 : Hid (c = 45) := by unfold Hid; rw [← hcc]; exact h45
  clear hdig hd hd1 h45
  clear hl hsm0 hgr0 h hO hx hc hi hcc
  go_enter Tryz.func18, Tryz.ntmps18
  go_wp2_with fail
  refine (rsmallB_any c _).mono ?_
  rintro e w' ⟨rfl, rfl⟩
  rw [HSM.out]
  go_wp2_with fail
  refine (rgreatB_any c _).mono ?_
  rintro e w' ⟨rfl, rfl⟩
  rw [HGR.out]
  go_wp2_with fail
  refine (rdigitB_any c _).mono ?_
  rintro e w' ⟨rfl, rfl⟩
  rw [HD.out]
  obtain rfl : c = 45 := H45.out
  go_wp2_with fail
  refine (rat_any (HR.out.keep ((Below.refl _ _).alloc (Nat.le_refl _) _ |>.alloc (by simp) _)) _ (by omega) (by omega)).mono ?_
  rintro e w' ⟨rfl, rfl⟩
  rw [show ((i : Int) + 1).toNat = i + 1 by omega, HD1.out]
  go_wp2_with fail
  refine (rdigitB_any d _).mono ?_
  rintro e w' ⟨rfl, rfl⟩
  rw [HD2.out]
  go_wp2_with fail
  refine (rsign_any (HR.out.keep ((Below.refl _ _).alloc (Nat.le_refl _) _ |>.alloc (by simp) _)) i (by omega)).mono ?_
  rintro e w' ⟨rfl, rfl⟩
  rw [HN.out]
  go_wp2_with fail
  go_region_held3 (fun w' => w'.cell? ⟨g, i * 5 + 1, none⟩ = some (.int .i64 x.fr) ∧ w'.cell? ⟨g, (i + (n - 1)) * 5 + 2, none⟩ = some (.int .i64 y.to))
    (first | go_keep)
    (first | fail)
  rw [HI.out]
  go_wp2
  exact bodyPost_ret (v := .tuple #[tkV ⟨4, t, 0, x.line, x.col⟩, .int .i64 ((i : Int) + n), .int .i64 0]) (by simp [results, Tryz.results18, go_sem, tkV]) rfl ⟨rfl, by repeat (first | exact Below.refl _ _ | apply Below.drew | refine Below.alloc ?_ (by simp; try omega) _)⟩

end Go.Proofs.YtignjhbajjephaaGreatDoor
