/- Contract of warderref02's one: a sign, not -. -/
import Derived.Test.YthbbbccefjemmaaDoorRef02h
namespace Go.Proofs.YthbbbccefjemmaaDoor
open Go.RowKit

set_option maxHeartbeats 8000000 in
theorem rone_signz {w : World} {v : Value} {s : ByteArray} {L : List Rn} {i : Nat} (h : RR w v L) (hO : RnOk s L) (_hs : s.size ≤ 4294967200) (hi : i < L.length) (hl : letterB (rAt L i) = false) (hdig : digitB (rAt L i) = false) (h45 : rAt L i ≠ 45) (hz : signN (rAt L i) (rAt L (i + 1)) = 0) :
    Calls Tryd.prog 18 #[.string s, v, .int .i64 i] w (ROne w ⟨4, ⟨#[]⟩, 0, lineAt L i, colAt L i⟩ i 1) := by
  obtain ⟨x, hx⟩ : ∃ x, L[i]? = some x := ⟨_, List.getElem?_eq_getElem hi⟩
  have HN := Lib.hid hz
  clear hz
  have hL := hO.len
  rw [(at_some hx).2.2.2.1, (at_some hx).2.2.2.2]
  have hsm0 : smallB (rAt L i) = false := by unfold letterB at hl; simp at hl; exact hl.1
  have hgr0 : greatB (rAt L i) = false := by unfold letterB at hl; simp at hl; exact hl.2
  obtain ⟨g, cap, hv, d0, d1, d2, d3, d4⟩ := h.rune hx
  subst hv
  have hgl := World.block_lt_of_cell? w _ d0
  have hc : x.r = rAt L i := (rAt_some hx).symm
  obtain ⟨c, hcc⟩ : ∃ c, rAt L i = c := ⟨_, rfl⟩
  rw [hcc] at hc hsm0 hgr0
  rw [hc] at d0
  have HSM := Lib.hid hsm0
  have HGR := Lib.hid hgr0
  have HR := Lib.hid h
  have HC := Lib.hid hcc
  have hiz : (i : Int) < (L.length : Int) := by omega
  have HD := Lib.hid (show digitB c = false by rw [← hcc]; exact hdig)
  have h45' : (c == 45) = false := beq_eq_false_iff_ne.2 (fun e => h45 (hcc.trans e))
  clear hdig h45
  clear hl hsm0 hgr0 h hO hx hc hi hcc
  go_enter Tryd.func18, Tryd.ntmps18
  go_wp2_with fail
  refine (rsmallB_any c _).mono ?_
  rintro e w' ⟨rfl, rfl⟩
  rw [HSM.out]
  go_wp2_with fail
  refine (rgreatB_any c _).mono ?_
  rintro e w' ⟨rfl, rfl⟩
  rw [HGR.out]
  go_wp2_with fail
  refine (rdigitB_any c _).mono ?_
  rintro e w' ⟨rfl, rfl⟩
  rw [HD.out]
  go_wp2_with fail
  refine (rsign_any (HR.out.keep ((Below.refl _ _).alloc (Nat.le_refl _) _ |>.alloc (by simp) _)) i (by omega)).mono ?_
  rintro e w' ⟨rfl, rfl⟩
  rw [HN.out]
  go_wp2
  exact bodyPost_ret (v := .tuple #[tkV ⟨4, ⟨#[]⟩, 0, x.line, x.col⟩, .int .i64 i, .int .i64 1]) (by simp [results, Tryd.results18, go_sem, tkV]) rfl ⟨rfl, by repeat (first | exact Below.refl _ _ | apply Below.drew | refine Below.alloc ?_ (by simp; try omega) _)⟩

set_option maxHeartbeats 8000000 in
theorem rone_sign {w : World} {v : Value} {s : ByteArray} {L : List Rn} {i : Nat} (h : RR w v L) (hO : RnOk s L) (_hs : s.size ≤ 4294967200) (hi : i < L.length) (hl : letterB (rAt L i) = false) (hdig : digitB (rAt L i) = false) (h45 : rAt L i ≠ 45) (hz : signN (rAt L i) (rAt L (i + 1)) ≠ 0) :
    Calls Tryd.prog 18 #[.string s, v, .int .i64 i] w (ROne w ⟨4, txt s L i (signN (rAt L i) (rAt L (i + 1))), 0, lineAt L i, colAt L i⟩ (i + signN (rAt L i) (rAt L (i + 1))) 0) := by
  obtain ⟨x, hx⟩ : ∃ x, L[i]? = some x := ⟨_, List.getElem?_eq_getElem hi⟩
  have hn1 : 1 ≤ signN (rAt L i) (rAt L (i + 1)) := by omega
  obtain ⟨y, hy⟩ := sign_end hi hz
  obtain ⟨hg1, hg2⟩ := hO.le _ _ x y (by omega) hx hy
  have hL := hO.len
  rw [(at_some hx).2.2.2.1, (at_some hx).2.2.2.2]
  have hsm0 : smallB (rAt L i) = false := by unfold letterB at hl; simp at hl; exact hl.1
  have hgr0 : greatB (rAt L i) = false := by unfold letterB at hl; simp at hl; exact hl.2
  obtain ⟨g, cap, hv, d0, d1, d2, d3, d4⟩ := h.rune hx
  subst hv
  have hgl := World.block_lt_of_cell? w _ d0
  have hc : x.r = rAt L i := (rAt_some hx).symm
  obtain ⟨c, hcc⟩ : ∃ c, rAt L i = c := ⟨_, rfl⟩
  rw [hcc] at hc hsm0 hgr0
  rw [hc] at d0
  have HSM := Lib.hid hsm0
  have HGR := Lib.hid hgr0
  have HR := Lib.hid h
  have HC := Lib.hid hcc
  have hiz : (i : Int) < (L.length : Int) := by omega
  obtain ⟨g', cap', hv', _, _, e2, _, _⟩ := h.rune hy
  simp only [Value.slice.injEq, Option.some.injEq, Addr.mk.injEq, true_and, and_true] at hv'
  obtain ⟨rfl, rfl⟩ := hv'
  have hte : s.extract x.fr y.to = txt s L i (signN (rAt L i) (rAt L (i + 1))) := by unfold txt; rw [(at_some hx).2.1, (at_some hy).2.2.1]
  have hts : (txt s L i (signN (rAt L i) (rAt L (i + 1)))).size ≤ s.size := by rw [← hte, ByteArray.size_extract]; omega
  have hn2 : signN (rAt L i) (rAt L (i + 1)) ≤ 2 := by unfold signN; split <;> (try split) <;> omega
  obtain ⟨t, ht⟩ : ∃ t, txt s L i (signN (rAt L i) (rAt L (i + 1))) = t := ⟨_, rfl⟩
  obtain ⟨n, hnn⟩ : ∃ n, signN (rAt L i) (rAt L (i + 1)) = n := ⟨_, rfl⟩
  rw [ht] at hte hts ⊢
  rw [hnn] at hn1 hn2 hy e2 ⊢
  have HN := Lib.hid hnn
  clear ht hnn hz
  have HI := Lib.hid hte
  clear hte
  have hjl := (List.getElem?_eq_some_iff.1 hy).1
  have hjz : (i : Int) + n - 1 < (L.length : Int) := by omega
  have hjz0 : (0 : Int) ≤ (i : Int) + n - 1 := by omega
  have hq1 : (1 : Int) ≤ (i : Int) + n := by omega
  have hjt : ((i : Int) + (n : Int) - 1).toNat = i + (n - 1) := by omega
  have hw2 : IntKind.i64.wrap ((i : Int) + (n : Int) - 1) = (i : Int) + n - 1 := IntWalk.i64_in _ (by omega)
  have hne : ((i : Int) + (n : Int) == (i : Int)) = false := beq_eq_false_iff_ne.2 (by omega)
  have hxz : (x.fr : Int) ≤ (y.to : Int) := by omega
  have hyz : (y.to : Int) ≤ (s.size : Int) := by omega
  have hfz : ¬ (y.to : Int) < (x.fr : Int) := by omega
  clear hjl hy
  have HD := Lib.hid (show digitB c = false by rw [← hcc]; exact hdig)
  have h45' : (c == 45) = false := beq_eq_false_iff_ne.2 (fun e => h45 (hcc.trans e))
  clear hdig h45
  clear hl hsm0 hgr0 h hO hx hc hi hcc
  go_enter Tryd.func18, Tryd.ntmps18
  go_wp2_with fail
  refine (rsmallB_any c _).mono ?_
  rintro e w' ⟨rfl, rfl⟩
  rw [HSM.out]
  go_wp2_with fail
  refine (rgreatB_any c _).mono ?_
  rintro e w' ⟨rfl, rfl⟩
  rw [HGR.out]
  go_wp2_with fail
  refine (rdigitB_any c _).mono ?_
  rintro e w' ⟨rfl, rfl⟩
  rw [HD.out]
  go_wp2_with fail
  refine (rsign_any (HR.out.keep ((Below.refl _ _).alloc (Nat.le_refl _) _ |>.alloc (by simp) _)) i (by omega)).mono ?_
  rintro e w' ⟨rfl, rfl⟩
  rw [HN.out]
  go_wp2_with fail
  go_region_held3 (fun w' => w'.cell? ⟨g, i * 5 + 1, none⟩ = some (.int .i64 x.fr) ∧ w'.cell? ⟨g, (i + (n - 1)) * 5 + 2, none⟩ = some (.int .i64 y.to))
    (first | go_keep)
    (first | fail)
  rw [HI.out]
  go_wp2
  exact bodyPost_ret (v := .tuple #[tkV ⟨4, t, 0, x.line, x.col⟩, .int .i64 ((i : Int) + n), .int .i64 0]) (by simp [results, Tryd.results18, go_sem, tkV]) rfl ⟨rfl, by repeat (first | exact Below.refl _ _ | apply Below.drew | refine Below.alloc ?_ (by simp; try omega) _)⟩

end Go.Proofs.YthbbbccefjemmaaDoor
