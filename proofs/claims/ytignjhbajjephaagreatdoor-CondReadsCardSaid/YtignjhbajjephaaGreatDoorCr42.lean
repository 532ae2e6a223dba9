/- Contract of warderref02's one: a word that begins with a small letter. Contract of warderref02's one: a word that begins with a great letter. -/
import Derived.Test.YtignjhbajjephaaGreatDoorCr41

namespace Go.Proofs.YtignjhbajjephaaGreatDoor
open Go.RowKit

set_option maxHeartbeats 4000000 in
theorem rone_word1 {w : World} {v : Value} {s : ByteArray} {L : List Rn} {i : Nat} (h : RR w v L) (hO : RnOk s L) (hs : s.size ≤ 4294967200) (hi : i < L.length) (hl : letterB (rAt L i) = true) (hsm0 : smallB (rAt L i) = true) :
    Calls Tryz.prog 18 #[.string s, v, .int .i64 i] w (ROne w ⟨wordKind (txt s L i (wordN L i)), txt s L i (wordN L i), 0, lineAt L i, colAt L i⟩ (i + wordN L i) (wordErr (txt s L i (wordN L i)))) := by
  obtain ⟨x, hx⟩ : ∃ x, L[i]? = some x := ⟨_, List.getElem?_eq_getElem hi⟩
  obtain ⟨⟨y, hy⟩, hn1, _⟩ := word_pre hO hi hl
  obtain ⟨hg1, hg2⟩ := hO.le _ _ x y (by omega) hx hy
  have hL := hO.len
  have hte : s.extract x.fr y.to = txt s L i (wordN L i) := by unfold txt; rw [(at_some hx).2.1, (at_some hy).2.2.1]
  have hrow : rowE innerB L i = i + wordN L i := by unfold wordN at *; omega
  have hts : (txt s L i (wordN L i)).size ≤ s.size := by rw [← hte, ByteArray.size_extract]; omega
  rw [(at_some hx).2.2.2.1, (at_some hx).2.2.2.2]
  obtain ⟨g, cap, hv, d0, d1, d2, d3, d4⟩ := h.rune hx
  obtain ⟨g', cap', hv', _, _, e2, _, _⟩ := h.rune hy
  rw [hv] at hv'
  simp only [Value.slice.injEq, Option.some.injEq, Addr.mk.injEq, true_and, and_true] at hv'
  obtain ⟨rfl, rfl⟩ := hv'
  subst hv
  have hgl := World.block_lt_of_cell? w _ d0
  obtain ⟨t, ht⟩ : ∃ t, txt s L i (wordN L i) = t := ⟨_, rfl⟩
  obtain ⟨n, hnn⟩ : ∃ n, wordN L i = n := ⟨_, rfl⟩
  rw [ht] at hte hts ⊢
  rw [hnn] at hn1 hrow hy e2 ⊢
  clear ht hnn
  have hc : x.r = rAt L i := (rAt_some hx).symm
  rw [← hc] at hl hsm0
  obtain ⟨c, hcc⟩ : ∃ c, x.r = c := ⟨_, rfl⟩
  rw [hcc] at hl d0 hsm0
  have HR := Lib.hid h
  have HI := Lib.hid (And.intro hrow hte)
  have hjl := (List.getElem?_eq_some_iff.1 hy).1
  have hiz : (i : Int) < (L.length : Int) := by omega
  have hjz : (i : Int) + n - 1 < (L.length : Int) := by omega
  have hjz0 : (0 : Int) ≤ (i : Int) + n - 1 := by omega
  have hjt : ((i : Int) + (n : Int) - 1).toNat = i + (n - 1) := by omega
  have hw2 : IntKind.i64.wrap ((i : Int) + (n : Int) - 1) = (i : Int) + n - 1 := IntWalk.i64_in _ (by omega)
  have hq1 : (1 : Int) ≤ (i : Int) + n := by omega
  have hxz : (x.fr : Int) ≤ (y.to : Int) := by omega
  have hyz : (y.to : Int) ≤ (s.size : Int) := by omega
  have hfz : ¬ (y.to : Int) < (x.fr : Int) := by omega
  have hne : ((i : Int) + (n : Int) == (i : Int)) = false := beq_eq_false_iff_ne.2 (by omega)
  have HS := Lib.hid hl
  have HSM := Lib.hid hsm0
  have HLE : Hid (letterB c = (smallB c || greatB c)) := rfl
  clear hsm0 h hO hx hy hrow hte hl hc hcc hi hjl
  go_enter Tryz.func18, Tryz.ntmps18
  go_wp2_with fail
  refine (rsmallB_any c _).mono ?_
  rintro e w' ⟨rfl, rfl⟩
  rw [HSM.out]
  go_wp2_with fail
  refine (rword_any (HR.out.keep ((Below.refl _ _).alloc (Nat.le_refl _) _ |>.alloc (by simp) _)) i (by omega) (by omega)).mono ?_
  rintro e w' ⟨rfl, rfl⟩
  rw [HI.out.1]
  go_wp2_with fail
  go_region_held3 (fun w' => w'.cell? ⟨g, i * 5 + 1, none⟩ = some (.int .i64 x.fr) ∧ w'.cell? ⟨g, (i + (n - 1)) * 5 + 2, none⟩ = some (.int .i64 y.to))
    (first | go_keep)
    (first | fail)
  rw [HI.out.2]
  go_wp2_with fail
  refine (rknown_any t _).mono ?_
  rintro e w2 ⟨rfl, hb2⟩
  have hT := (TkAt.new (w.alloc (.cells #[.int .i64 0, .string ⟨#[]⟩, .int .i64 0, .int .i64 0, .int .i64 0] 43)) 1 0 x.line x.col t)
  rw [show (w.alloc (.cells #[.int .i64 0, .string ⟨#[]⟩, .int .i64 0, .int .i64 0, .int .i64 0] 43)).heap.size = w.heap.size + 1 by simp] at hT
  replace hT := hT.drew.below hb2 (by simp)
  have hR := (((TkAt.new w 0 0 0 0 ⟨#[]⟩).alloc (.cells #[.int .i64 1, .string t, .int .i64 0, .int .i64 x.line, .int .i64 x.col] 43)).drew).below hb2 (by simp; omega)
  have HB2 := Lib.hid (((((Below.refl w.heap.size w).alloc (Nat.le_refl _) (.cells #[.int .i64 0, .string ⟨#[]⟩, .int .i64 0, .int .i64 0, .int .i64 0] 43)).alloc (by simp) (.cells #[.int .i64 1, .string t, .int .i64 0, .int .i64 x.line, .int .i64 x.col] 43)).drew).trans (hb2.mono (by simp; omega)))
  clear hb2
  cases hkn : knownB t
  · have HWK : Hid (wordKind t = 1) := by unfold Hid wordKind; rw [hkn]; rfl
    have hwe : wordErr t = if hasGreatB t then 1 else if 16 < t.size then 3 else 0 := by unfold wordErr; rw [hkn]; rfl
    have HWEE := Lib.hid hwe
    clear hwe hkn
    obtain ⟨c0, c1, c2, c3, c4⟩ := hT.facts
    go_wp2_with fail
    refine (rhasGreat_any t _ (by omega)).mono ?_
    rintro e w' ⟨rfl, rfl⟩
    cases hgt : hasGreatB t
    · by_cases h16 : 16 < t.size
      · have HWE : Hid (wordErr t = 3) := by unfold Hid; rw [HWEE.out, hgt, if_neg (by simp), if_pos h16]
        have h16' : (16 : Int) < t.size := by omega
        clear h16 hgt hT
        obtain ⟨r0, r1, r2, r3, r4⟩ := hR.free
        obtain ⟨s0, s1, s2, s3, s4⟩ := hR.facts
        obtain ⟨e0, e1, e2, e3, e4⟩ := (hR.stored ⟨1, t, 0, x.line, x.col⟩).facts
        have HBF := Lib.hid (below_stored (HB2.out) (Nat.le_refl w.heap.size) ⟨1, t, 0, x.line, x.col⟩)
        clear hR
        go_wp2
        exact bodyPost_ret (v := .tuple #[tkV ⟨1, t, 0, x.line, x.col⟩, .int .i64 ((i : Int) + n), .int .i64 3]) (by simp [results, Tryz.results18, go_sem, tkV, e0, e1, e2, e3, e4]) rfl ⟨by rw [HWK.out, HWE.out]; rfl, HBF.out⟩
      · have HWE : Hid (wordErr t = 0) := by unfold Hid; rw [HWEE.out, hgt, if_neg (by simp), if_neg h16]
        have h16' : (t.size : Int) ≤ 16 := by omega
        clear h16 hgt hT
        obtain ⟨r0, r1, r2, r3, r4⟩ := hR.free
        obtain ⟨s0, s1, s2, s3, s4⟩ := hR.facts
        obtain ⟨e0, e1, e2, e3, e4⟩ := (hR.stored ⟨1, t, 0, x.line, x.col⟩).facts
        have HBF := Lib.hid (below_stored (HB2.out) (Nat.le_refl w.heap.size) ⟨1, t, 0, x.line, x.col⟩)
        clear hR
        go_wp2
        exact bodyPost_ret (v := .tuple #[tkV ⟨1, t, 0, x.line, x.col⟩, .int .i64 ((i : Int) + n), .int .i64 0]) (by simp [results, Tryz.results18, go_sem, tkV, e0, e1, e2, e3, e4]) rfl ⟨by rw [HWK.out, HWE.out]; rfl, HBF.out⟩
    · have HWE : Hid (wordErr t = 1) := by unfold Hid; rw [HWEE.out, hgt]; rfl
      clear hgt hT
      obtain ⟨r0, r1, r2, r3, r4⟩ := hR.free
      obtain ⟨s0, s1, s2, s3, s4⟩ := hR.facts
      obtain ⟨e0, e1, e2, e3, e4⟩ := (hR.stored ⟨1, t, 0, x.line, x.col⟩).facts
      have HBF := Lib.hid (below_stored (HB2.out) (Nat.le_refl w.heap.size) ⟨1, t, 0, x.line, x.col⟩)
      clear hR
      go_wp2
      exact bodyPost_ret (v := .tuple #[tkV ⟨1, t, 0, x.line, x.col⟩, .int .i64 ((i : Int) + n), .int .i64 1]) (by simp [results, Tryz.results18, go_sem, tkV, e0, e1, e2, e3, e4]) rfl ⟨by rw [HWK.out, HWE.out]; rfl, HBF.out⟩
  · have HWK : Hid (wordKind t = 2) := by unfold Hid wordKind; rw [hkn]; rfl
    have HWE : Hid (wordErr t = 0) := by unfold Hid wordErr; rw [hkn]; rfl
    clear hkn
    have hT0 := hT.facts
    have hf0 := hT.free.1
    obtain ⟨c0, c1, c2, c3, c4⟩ := (hT.setKind 2).facts
    have hR2 := hR.setOther (g := w.heap.size + 1) (j := 0) (by omega) (.int .i64 2)
    obtain ⟨k0, _, _, _, _⟩ := hT0
    have HB3 := Lib.hid (HB2.out.setCell (p := ⟨w.heap.size + 1, 0, none⟩) (by show w.heap.size ≤ w.heap.size + 1; omega) (.int .i64 2))
    clear hT hR
    obtain ⟨r0, r1, r2, r3, r4⟩ := hR2.free
    obtain ⟨s0, s1, s2, s3, s4⟩ := hR2.facts
    obtain ⟨e0, e1, e2, e3, e4⟩ := (hR2.stored ⟨2, t, 0, x.line, x.col⟩).facts
    have HBF := Lib.hid (below_stored (HB3.out) (Nat.le_refl w.heap.size) ⟨2, t, 0, x.line, x.col⟩)
    clear hR2
    go_wp2
    exact bodyPost_ret (v := .tuple #[tkV ⟨2, t, 0, x.line, x.col⟩, .int .i64 ((i : Int) + n), .int .i64 0]) (by simp [results, Tryz.results18, go_sem, tkV, e0, e1, e2, e3, e4]) rfl ⟨by rw [HWK.out, HWE.out]; rfl, HBF.out⟩


end Go.Proofs.YtignjhbajjephaaGreatDoor

namespace Go.Proofs.YtignjhbajjephaaGreatDoor
open Go.RowKit

set_option maxHeartbeats 4000000 in
theorem rone_word2 {w : World} {v : Value} {s : ByteArray} {L : List Rn} {i : Nat} (h : RR w v L) (hO : RnOk s L) (hs : s.size ≤ 4294967200) (hi : i < L.length) (hl : letterB (rAt L i) = true) (hsm0 : smallB (rAt L i) = false) :
    Calls Tryz.prog 18 #[.string s, v, .int .i64 i] w (ROne w ⟨wordKind (txt s L i (wordN L i)), txt s L i (wordN L i), 0, lineAt L i, colAt L i⟩ (i + wordN L i) (wordErr (txt s L i (wordN L i)))) := by
  obtain ⟨x, hx⟩ : ∃ x, L[i]? = some x := ⟨_, List.getElem?_eq_getElem hi⟩
  obtain ⟨⟨y, hy⟩, hn1, _⟩ := word_pre hO hi hl
  obtain ⟨hg1, hg2⟩ := hO.le _ _ x y (by omega) hx hy
  have hL := hO.len
  have hte : s.extract x.fr y.to = txt s L i (wordN L i) := by unfold txt; rw [(at_some hx).2.1, (at_some hy).2.2.1]
  have hrow : rowE innerB L i = i + wordN L i := by unfold wordN at *; omega
  have hts : (txt s L i (wordN L i)).size ≤ s.size := by rw [← hte, ByteArray.size_extract]; omega
  rw [(at_some hx).2.2.2.1, (at_some hx).2.2.2.2]
  obtain ⟨g, cap, hv, d0, d1, d2, d3, d4⟩ := h.rune hx
  obtain ⟨g', cap', hv', _, _, e2, _, _⟩ := h.rune hy
  rw [hv] at hv'
  simp only [Value.slice.injEq, Option.some.injEq, Addr.mk.injEq, true_and, and_true] at hv'
  obtain ⟨rfl, rfl⟩ := hv'
  subst hv
  have hgl := World.block_lt_of_cell? w _ d0
  obtain ⟨t, ht⟩ : ∃ t, txt s L i (wordN L i) = t := ⟨_, rfl⟩
  obtain ⟨n, hnn⟩ : ∃ n, wordN L i = n := ⟨_, rfl⟩
  rw [ht] at hte hts ⊢
  rw [hnn] at hn1 hrow hy e2 ⊢
  clear ht hnn
  have hc : x.r = rAt L i := (rAt_some hx).symm
  rw [← hc] at hl hsm0
  obtain ⟨c, hcc⟩ : ∃ c, x.r = c := ⟨_, rfl⟩
  rw [hcc] at hl d0 hsm0
  have HR := Lib.hid h
  have HI := Lib.hid (And.intro hrow hte)
  have hjl := (List.getElem?_eq_some_iff.1 hy).1
  have hiz : (i : Int) < (L.length : Int) := by omega
  have hjz : (i : Int) + n - 1 < (L.length : Int) := by omega
  have hjz0 : (0 : Int) ≤ (i : Int) + n - 1 := by omega
  have hjt : ((i : Int) + (n : Int) - 1).toNat = i + (n - 1) := by omega
  have hw2 : IntKind.i64.wrap ((i : Int) + (n : Int) - 1) = (i : Int) + n - 1 := IntWalk.i64_in _ (by omega)
  have hq1 : (1 : Int) ≤ (i : Int) + n := by omega
  have hxz : (x.fr : Int) ≤ (y.to : Int) := by omega
  have hyz : (y.to : Int) ≤ (s.size : Int) := by omega
  have hfz : ¬ (y.to : Int) < (x.fr : Int) := by omega
  have hne : ((i : Int) + (n : Int) == (i : Int)) = false := beq_eq_false_iff_ne.2 (by omega)
  have HS := Lib.hid hl
  have HSM := Lib.hid hsm0
  have HLE : Hid (letterB c = (smallB c || greatB c)) := rfl
  clear hsm0 h hO hx hy hrow hte hl hc hcc hi hjl
  go_enter Tryz.func18, Tryz.ntmps18
  go_wp2_with fail
  refine (rsmallB_any c _).mono ?_
  rintro e w' ⟨rfl, rfl⟩
  have hgr : greatB c = true := by have := HLE.out; rw [HS.out, HSM.out] at this; simpa using this.symm
  rw [HSM.out]
  go_wp2_with fail
  refine (rgreatB_any c _).mono ?_
  rintro e w' ⟨rfl, rfl⟩
  rw [hgr]
  clear hgr
  go_wp2_with fail
  refine (rword_any (HR.out.keep ((Below.refl _ _).alloc (Nat.le_refl _) _ |>.alloc (by simp) _)) i (by omega) (by omega)).mono ?_
  rintro e w' ⟨rfl, rfl⟩
  rw [HI.out.1]
  go_wp2_with fail
  go_region_held3 (fun w' => w'.cell? ⟨g, i * 5 + 1, none⟩ = some (.int .i64 x.fr) ∧ w'.cell? ⟨g, (i + (n - 1)) * 5 + 2, none⟩ = some (.int .i64 y.to))
    (first | go_keep)
    (first | fail)
  rw [HI.out.2]
  go_wp2_with fail
  refine (rknown_any t _).mono ?_
  rintro e w2 ⟨rfl, hb2⟩
  have hT := (TkAt.new (w.alloc (.cells #[.int .i64 0, .string ⟨#[]⟩, .int .i64 0, .int .i64 0, .int .i64 0] 43)) 1 0 x.line x.col t)
  rw [show (w.alloc (.cells #[.int .i64 0, .string ⟨#[]⟩, .int .i64 0, .int .i64 0, .int .i64 0] 43)).heap.size = w.heap.size + 1 by simp] at hT
  replace hT := hT.drew.below hb2 (by simp)
  have hR := (((TkAt.new w 0 0 0 0 ⟨#[]⟩).alloc (.cells #[.int .i64 1, .string t, .int .i64 0, .int .i64 x.line, .int .i64 x.col] 43)).drew).below hb2 (by simp; omega)
  have HB2 := Lib.hid (((((Below.refl w.heap.size w).alloc (Nat.le_refl _) (.cells #[.int .i64 0, .string ⟨#[]⟩, .int .i64 0, .int .i64 0, .int .i64 0] 43)).alloc (by simp) (.cells #[.int .i64 1, .string t, .int .i64 0, .int .i64 x.line, .int .i64 x.col] 43)).drew).trans (hb2.mono (by simp; omega)))
  clear hb2
  cases hkn : knownB t
  · have HWK : Hid (wordKind t = 1) := by unfold Hid wordKind; rw [hkn]; rfl
    have hwe : wordErr t = if hasGreatB t then 1 else if 16 < t.size then 3 else 0 := by unfold wordErr; rw [hkn]; rfl
    have HWEE := Lib.hid hwe
    clear hwe hkn
    obtain ⟨c0, c1, c2, c3, c4⟩ := hT.facts
    go_wp2_with fail
    refine (rhasGreat_any t _ (by omega)).mono ?_
    rintro e w' ⟨rfl, rfl⟩
    cases hgt : hasGreatB t
    · by_cases h16 : 16 < t.size
      · have HWE : Hid (wordErr t = 3) := by unfold Hid; rw [HWEE.out, hgt, if_neg (by simp), if_pos h16]
        have h16' : (16 : Int) < t.size := by omega
        clear h16 hgt hT
        obtain ⟨r0, r1, r2, r3, r4⟩ := hR.free
        obtain ⟨s0, s1, s2, s3, s4⟩ := hR.facts
        obtain ⟨e0, e1, e2, e3, e4⟩ := (hR.stored ⟨1, t, 0, x.line, x.col⟩).facts
        have HBF := Lib.hid (below_stored (HB2.out) (Nat.le_refl w.heap.size) ⟨1, t, 0, x.line, x.col⟩)
        clear hR
        go_wp2
        exact bodyPost_ret (v := .tuple #[tkV ⟨1, t, 0, x.line, x.col⟩, .int .i64 ((i : Int) + n), .int .i64 3]) (by simp [results, Tryz.results18, go_sem, tkV, e0, e1, e2, e3, e4]) rfl ⟨by rw [HWK.out, HWE.out]; rfl, HBF.out⟩
      · have HWE : Hid (wordErr t = 0) := by unfold Hid; rw [HWEE.out, hgt, if_neg (by simp), if_neg h16]
        have h16' : (t.size : Int) ≤ 16 := by omega
        clear h16 hgt hT
        obtain ⟨r0, r1, r2, r3, r4⟩ := hR.free
        obtain ⟨s0, s1, s2, s3, s4⟩ := hR.facts
        obtain ⟨e0, e1, e2, e3, e4⟩ := (hR.stored ⟨1, t, 0, x.line, x.col⟩).facts
        have HBF := Lib.hid (below_stored (HB2.out) (Nat.le_refl w.heap.size) ⟨1, t, 0, x.line, x.col⟩)
        clear hR
        go_wp2
        exact bodyPost_ret (v := .tuple #[tkV ⟨1, t, 0, x.line, x.col⟩, .int .i64 ((i : Int) + n), .int .i64 0]) (by simp [results, Tryz.results18, go_sem, tkV, e0, e1, e2, e3, e4]) rfl ⟨by rw [HWK.out, HWE.out]; rfl, HBF.out⟩
    · have HWE : Hid (wordErr t = 1) := by unfold Hid; rw [HWEE.out, hgt]; rfl
      clear hgt hT
      obtain ⟨r0, r1, r2, r3, r4⟩ := hR.free
      obtain ⟨s0, s1, s2, s3, s4⟩ := hR.facts
      obtain ⟨e0, e1, e2, e3, e4⟩ := (hR.stored ⟨1, t, 0, x.line, x.col⟩).facts
      have HBF := Lib.hid (below_stored (HB2.out) (Nat.le_refl w.heap.size) ⟨1, t, 0, x.line, x.col⟩)
      clear hR
      go_wp2
      exact bodyPost_ret (v := .tuple #[tkV ⟨1, t, 0, x.line, x.col⟩, .int .i64 ((i : Int) + n), .int .i64 1]) (by simp [results, Tryz.results18, go_sem, tkV, e0, e1, e2, e3, e4]) rfl ⟨by rw [HWK.out, HWE.out]; rfl, HBF.out⟩
  · have HWK : Hid (wordKind t = 2) := by unfold Hid wordKind; rw [hkn]; rfl
    have HWE : Hid (wordErr t = 0) := by unfold Hid wordErr; rw [hkn]; rfl
    clear hkn
    have hT0 := hT.facts
    have hf0 := hT.free.1
    obtain ⟨c0, c1, c2, c3, c4⟩ := (hT.setKind 2).facts
    have hR2 := hR.setOther (g := w.heap.size + 1) (j := 0) (by omega) (.int .i64 2)
    obtain ⟨k0, _, _, _, _⟩ := hT0
    have HB3 := Lib.hid (HB2.out.setCell (p := ⟨w.heap.size + 1, 0, none⟩) (by show w.heap.size ≤ w.heap.size + 1; omega) (.int .i64 2))
    clear hT hR
    obtain ⟨r0, r1, r2, r3, r4⟩ := hR2.free
    obtain ⟨s0, s1, s2, s3, s4⟩ := hR2.facts
    obtain ⟨e0, e1, e2, e3, e4⟩ := (hR2.stored ⟨2, t, 0, x.line, x.col⟩).facts
    have HBF := Lib.hid (below_stored (HB3.out) (Nat.le_refl w.heap.size) ⟨2, t, 0, x.line, x.col⟩)
    clear hR2
    go_wp2
    exact bodyPost_ret (v := .tuple #[tkV ⟨2, t, 0, x.line, x.col⟩, .int .i64 ((i : Int) + n), .int .i64 0]) (by simp [results, Tryz.results18, go_sem, tkV, e0, e1, e2, e3, e4]) rfl ⟨by rw [HWK.out, HWE.out]; rfl, HBF.out⟩


end Go.Proofs.YtignjhbajjephaaGreatDoor
