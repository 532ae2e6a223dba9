/- trace.line. -/
import Derived.Test.YtgmijfmbbaipfaaDoorTr1
import Derived.Test.YtgmijfmbbaipfaaDoorApp
import Derived.Deep.RegionHeld3
import Derived.Deep.RegionLaw
import Derived.Deep.DeepCutAuto
import Derived.Deep.CutRange
namespace Go.Proofs.YtgmijfmbbaipfaaDoor
open Go.RowKit

/-- where an event lies -/
structure EvAt (W : World) (b o : Nat) (e : Ev) (sv : Value) : Prop where
  lt : b < W.heap.size
  c0 : W.cell? ⟨b, o, none⟩ = some (.string e.name)
  c1 : W.cell? ⟨b, o + 1, none⟩ = some (.int .i64 e.role)
  c2 : W.cell? ⟨b, o + 2, none⟩ = some (.int .i64 e.stage)
  c3 : W.cell? ⟨b, o + 3, none⟩ = some sv
  c4 : W.cell? ⟨b, o + 4, none⟩ = some (.int .i64 e.times)
  sets : RowE intE 1 W sv e.sets
theorem EvAt.below {W W' : World} {b o : Nat} {e : Ev} {sv : Value} (h : EvAt W b o e sv) (hb : Below W.heap.size W W') : EvAt W' b o e sv := by
  have k : ∀ j u, W.cell? ⟨b, j, none⟩ = some u → W'.cell? ⟨b, j, none⟩ = some u := fun j u hu => (hb.cell (p := ⟨b, j, none⟩) h.lt).trans hu
  exact ⟨Nat.lt_of_lt_of_le h.lt hb.size, k _ _ h.c0, k _ _ h.c1, k _ _ h.c2, k _ _ h.c3, k _ _ h.c4, h.sets.below intE_keep hb⟩
/-- where a text lies -/
structure StAt (W : World) (b o : Nat) (s : ByteArray) : Prop where
  lt : b < W.heap.size
  c : W.cell? ⟨b, o, none⟩ = some (.string s)
theorem StAt.below {W W' : World} {b o : Nat} {s : ByteArray} (h : StAt W b o s) (hb : Below W.heap.size W W') : StAt W' b o s :=
  ⟨Nat.lt_of_lt_of_le h.lt hb.size, (hb.cell (p := ⟨b, o, none⟩) h.lt).trans h.c⟩
theorem MdR.event_at {w : World} {m0 m1 m2 m3 m4 m5 m6 m7 m8 m9 : Value} {M : Mdl} (h : MdR w m0 m1 m2 m3 m4 m5 m6 m7 m8 m9 M) {E : Nat} {e : Ev} (hE : M.events[E]? = some e) :
    ∃ b off cap sv, m5 = .slice (some ⟨b, off, none⟩) M.events.length cap ∧ EvAt w b (off + E * 5) e sv := by
  obtain ⟨b, off, cap, cs, hv, hb, _, ⟨sv, hc, hr⟩, hcell⟩ := h.events.at hE
  subst hc
  exact ⟨b, off, cap, sv, hv, hb, hcell 0 _ rfl, hcell 1 _ rfl, hcell 2 _ rfl, hcell 3 _ rfl, hcell 4 _ rfl, hr⟩
theorem RowE.st {w : World} {v : Value} {T : List ByteArray} (h : RowE strE 1 w v T) {i : Nat} {s : ByteArray} (hi : T[i]? = some s) : ∃ b off cap, v = .slice (some ⟨b, off, none⟩) T.length cap ∧ StAt w b (off + i) s := by
  obtain ⟨b, off, cap, hv, hb, hc⟩ := h.str hi
  exact ⟨b, off, cap, hv, hb, hc⟩
theorem inZ_nat {n : Int} {m : Nat} (h : inZ n m = true) : ∃ k : Nat, n = k ∧ k < m := by
  unfold inZ at h
  rw [Bool.and_eq_true, decide_eq_true_iff, decide_eq_true_iff] at h
  exact ⟨n.toNat, by omega, by omega⟩
def strC (l : List ByteArray) : List Value := l.map Value.string
theorem strC_snoc (l : List ByteArray) (s : ByteArray) : strC (l ++ [s]) = strC l ++ [.string s] := by simp [strC]
theorem strC_one (l : List ByteArray) : ∀ u ∈ strC l, u.oneCell' = true := by
  intro u hu
  obtain ⟨s, _, rfl⟩ := List.mem_map.1 hu
  rfl
theorem owns_capT {w : World} {base : Nat} {e : TypeId} {sz n cap : Nat} {ad : Option Addr} {xs : List Value} (h : w.ownsRow base e sz (.slice ad n cap) n xs) : n ≤ cap := by
  rcases h.2 with ⟨h1, h0⟩ | ⟨g, cap', cur, hv, _, _, hn, _⟩
  · omega
  · cases hv; exact hn
theorem cat1 {a k A : Nat} (h : a ≤ A) (hk : A + k ≤ 100000000) : ¬ 9223372036854775807 < a + k := by omega
theorem cat2 {a b k A B : Nat} (h : a ≤ A) (h2 : b ≤ B) (hk : A + k + B ≤ 100000000) : ¬ 9223372036854775807 < a + k + b := by omega
theorem cat3 {a b k j A B : Nat} (h : a ≤ A) (h2 : b ≤ B) (hk : A + k + B + j ≤ 100000000) : ¬ 9223372036854775807 < a + k + b + j := by omega
theorem cat4 {a b c k j A B C : Nat} (h : a ≤ A) (h2 : b ≤ B) (h3 : c ≤ C) (hk : A + k + B + (j + C) ≤ 100000000) : ¬ 9223372036854775807 < a + k + b + (j + c) := by omega
theorem cat5 {a b c k j i A B C : Nat} (h : a ≤ A) (h2 : b ≤ B) (h3 : c ≤ C) (hk : A + k + B + (j + C) + i ≤ 100000000) : ¬ 9223372036854775807 < a + k + b + (j + c) + i := by omega
theorem cat0 {a k A : Nat} (h : a ≤ A) (hk : k + A ≤ 100000000) : ¬ 9223372036854775807 < k + a := by omega
theorem small16 {k n : Nat} (h : k < n) (h2 : n ≤ 20) : (k + 1) * 16 ≤ 140737488355328 := by omega
theorem small47 {k : Nat} (h : k ≤ 20) : k ≤ 140737488355328 := by omega
theorem join_row {w : World} {base g k cap : Nat} {l : List ByteArray} {sep J : ByteArray} (h : w.ownsRow base 9 1 (.slice (some ⟨g, 0, none⟩) k cap) k (strC l)) (hl : l.length = k) (hg : g < w.heap.size) (hc : k ≤ cap) (hk : k ≤ 140737488355328)
    (hJ : (⟨(Lib.join (l.map (·.data.toList)) sep.data.toList).toArray⟩ : ByteArray) = J) (hj : (Lib.join (l.map (·.data.toList)) sep.data.toList).length ≤ 140737488355328) :
    Calls Tryd.prog 16 #[.slice (some ⟨g, 0, none⟩) k cap, .string sep] w fun e w' => e = .returned (.string J) ∧ Below w.heap.size w w' := by
  subst hl
  rw [← hJ]
  exact Tryd.strings_Join g 0 cap l sep w (fun j z hz => by
    have hj := (List.getElem?_eq_some_iff.1 hz).1
    rw [Nat.zero_add, h.cellAt _ (by omega)]
    unfold strC; rw [List.getElem?_map, hz]; rfl) hg hk hc hj
theorem info_strT : (Tryd.prog.info? 9).map (fun i => (i.zero, i.size, i.bytes)) = some (some (.string ⟨#[]⟩), 1, 16) := by kernel_rfl

set_option maxRecDepth 100000 in
set_option maxHeartbeats 1600000 in
theorem tline_any {w : World} {m0 m1 m2 m3 m4 m5 m6 m7 m8 m9 v2 : Value} {M : Mdl} (v : Mv) (ht : Tabs w) (hm : MdR w m0 m1 m2 m3 m4 m5 m6 m7 m8 m9 M) (hv : RowE intE 1 w v2 v.vals) (hs : SmallM M) (hsv : SmallV v) :
    Calls Tryd.prog 10 #[.agg #[m0, m1, m2, m3, m4, m5, m6, m7, m8, m9], .agg #[.int .i64 v.event, .int .i64 v.user, v2]] w fun e w' => ∃ s, e = .returned (.tuple #[.string s, .bool (lineOK M v)]) ∧ Hid (lineOK M v = true → s = lineT M v) ∧ Below w.heap.size w w' := by
  obtain ⟨a0, k0, e0⟩ := hm.attrs.len
  obtain ⟨a2, k2, e2⟩ := hm.users.len
  obtain ⟨a5, k5, e5⟩ := hm.events.len
  obtain ⟨av, kv, ev⟩ := hv.len
  have hx0 := hm.attrs.max; have hx2 := hm.users.max; have hx5 := hm.events.max; have hxv := hv.max
  obtain ⟨n0, hn0⟩ : ∃ n, M.attrs.length = n := ⟨_, rfl⟩
  obtain ⟨n2, hn2⟩ : ∃ n, M.users.length = n := ⟨_, rfl⟩
  obtain ⟨n5, hn5⟩ : ∃ n, M.events.length = n := ⟨_, rfl⟩
  obtain ⟨nv, hnv⟩ : ∃ n, v.vals.length = n := ⟨_, rfl⟩
  rw [hn0] at e0 hx0; rw [hn2] at e2 hx2; rw [hn5] at e5 hx5; rw [hnv] at ev hxv
  subst e0; subst e2; subst e5; subst ev
  obtain ⟨ve, hve⟩ : ∃ x, v.event = x := ⟨_, rfl⟩
  obtain ⟨vu, hvu⟩ : ∃ x, v.user = x := ⟨_, rfl⟩
  obtain ⟨W1, hW1⟩ : ∃ W1, w.alloc (.cells #[.slice a0 n0 k0, m1, .slice a2 n2 k2, m3, m4, .slice a5 n5 k5, m6, m7, m8, m9] 32) = W1 := ⟨_, rfl⟩
  have hs1 : W1.heap.size = w.heap.size + 1 := by rw [← hW1]; simp
  obtain ⟨W2, hW2⟩ : ∃ W2, W1.alloc (.cells #[.int .i64 ve, .int .i64 vu, .slice av nv kv] 46) = W2 := ⟨_, rfl⟩
  have hb2 : Below w.heap.size w W2 := by rw [← hW2, ← hW1]; exact ((Below.refl _ w).alloc (Nat.le_refl _) _).alloc (by simp) _
  have xm : Blk W2 w.heap.size #[.slice a0 n0 k0, m1, .slice a2 n2 k2, m3, m4, .slice a5 n5 k5, m6, m7, m8, m9] 32 := by rw [← hW2, ← hW1]; exact (Blk.new _ _ _).alloc _
  have xv : Blk W2 (w.heap.size + 1) #[.int .i64 ve, .int .i64 vu, .slice av nv kv] 46 := by rw [← hW2, ← hs1]; exact Blk.new _ _ _
  have d0 := xv.cell (i := 0) rfl; have d1 := xv.cell (i := 1) rfl; have d2 := xv.cell (i := 2) rfl
  have HT := Lib.hid ht; have HM := Lib.hid hm; have HV := Lib.hid hv; have HS := Lib.hid hs; have HSV := Lib.hid hsv
  have HN0 := Lib.hid hn0; have HN2 := Lib.hid hn2; have HN5 := Lib.hid hn5; have HNV := Lib.hid hnv
  have HVE := Lib.hid hve; have HVU := Lib.hid hvu; have HB2 := Lib.hid hb2; have HXM := Lib.hid xm; have HXV := Lib.hid xv
  have hid0 := tidle_any v av kv W2
  rw [hve, hvu, hnv] at hid0
  obtain ⟨q, hq⟩ : ∃ q, idleV v = q := ⟨_, rfl⟩
  rw [hq] at hid0
  have HID := Lib.hid hid0
  have HQ := Lib.hid hq
  rw [hve, hvu]
  clear ht hm hv hs hsv hn0 hn2 hn5 hnv hve hvu hb2 xm xv hid0 hq
  go_enter Tryd.func10, Tryd.ntmps10
  go_wp2_with fail
  refine HID.out.mono ?_
  rintro e w3 ⟨rfl, hb3⟩
  have HB3 := Lib.hid (HB2.out.trans (hb3.mono HB2.out.size))
  have HXM3 := Lib.hid (HXM.out.keep hb3)
  have HXV3 := Lib.hid (HXV.out.keep hb3)
  clear hb3 d0 d1 d2 HID HB2 HXM HXV
  cases q
  rotate_left
  · have HF : Hid (lineOK M v = true ∧ lineT M v = idleW) := by
      unfold Hid lineOK lineT; rw [HQ.out]; exact ⟨rfl, if_pos rfl⟩
    go_wp2_with fail
    go_ret2
    exact ⟨idleW, by rw [HF.out.1]; rfl, Lib.hid (fun _ => HF.out.2.symm), HB3.out⟩
  have HOK : Hid (lineOK M v = (inZ ve n5 && inZ vu n2 && decide (nv = (evAt M ve).sets.length) && nameOK (evAt M ve).name && nameOK (userAt M vu) && setsOK M.attrs (evAt M ve).sets (evAt M ve).sets.length)) := by
    unfold Hid lineOK formOK; rw [HQ.out, HVE.out, HVU.out, HN5.out, HN2.out, HNV.out]; rfl
  have HLT : Hid (lineT M v = accT M.attrs (evAt M ve).sets v.vals ((evAt M ve).name ++ byW ++ userAt M vu) (evAt M ve).sets.length ++ endW) := by
    unfold Hid lineT; rw [HQ.out, HVE.out, HVU.out]; rfl
  clear HQ
  have c0 := HXM3.out.cell (i := 0) rfl; have c2 := HXM3.out.cell (i := 2) rfl; have c5 := HXM3.out.cell (i := 5) rfl
  have d0 := HXV3.out.cell (i := 0) rfl; have d1 := HXV3.out.cell (i := 1) rfl; have d2 := HXV3.out.cell (i := 2) rfl
  by_cases h1 : inZ ve n5 = true
  rotate_left
  · rw [Bool.not_eq_true] at h1
    have HF : Hid (lineOK M v = false) := by unfold Hid; rw [HOK.out, h1]; rfl
    have HI1 : Hid (∀ q, Calls Tryd.prog 13 #[.int .i64 ve, .int .i64 n5] (w3.drewN q) fun e w' => e = .returned (.bool false) ∧ w' = w3.drewN q) := fun q => (tin_any ve n5 _).mono fun e w' h => ⟨by rw [h.1, h1], h.2.symm⟩
    clear h1
    go_upto_region 3 with fail
    go_quiet ((go_at_call 13; exact Calls.quiet_of_same (HI1.out _)))
    have HB4 := Lib.hid (below_drewN HB3.out nq)
    go_wp2_with fail
    go_ret2
    exact ⟨_, by rw [HF.out]; rfl, Lib.hid (fun h => by rw [HF.out] at h; cases h), HB4.out⟩
  obtain ⟨E, rfl, hE⟩ := inZ_nat h1
  by_cases h2 : inZ vu n2 = true
  rotate_left
  · rw [Bool.not_eq_true] at h2
    have HF : Hid (lineOK M v = false) := by unfold Hid; rw [HOK.out, h2, Bool.and_false]; rfl
    have HI1 : Hid (∀ q, Calls Tryd.prog 13 #[.int .i64 E, .int .i64 n5] (w3.drewN q) fun e w' => e = .returned (.bool true) ∧ w' = w3.drewN q) := fun q => (tin_any E n5 _).mono fun e w' h => ⟨by rw [h.1, h1], h.2.symm⟩
    have HI2 : Hid (∀ q, Calls Tryd.prog 13 #[.int .i64 vu, .int .i64 n2] (w3.drewN q) fun e w' => e = .returned (.bool false) ∧ w' = w3.drewN q) := fun q => (tin_any vu n2 _).mono fun e w' h => ⟨by rw [h.1, h2], h.2.symm⟩
    clear h1 h2
    go_upto_region 3 with fail
    go_quiet ((go_at_call 13; first | (with_reducible exact Calls.quiet_of_same (HI1.out _)) | (with_reducible exact Calls.quiet_of_same (HI2.out _))))
    have HB4 := Lib.hid (below_drewN HB3.out nq)
    go_wp2_with fail
    go_ret2
    exact ⟨_, by rw [HF.out]; rfl, Lib.hid (fun h => by rw [HF.out] at h; cases h), HB4.out⟩
  obtain ⟨U, rfl, hU⟩ := inZ_nat h2
  obtain ⟨e, he⟩ : ∃ e, M.events[E]? = some e := ⟨_, List.getElem?_eq_getElem (by rw [HN5.out]; exact hE)⟩
  obtain ⟨u, hu⟩ : ∃ u, M.users[U]? = some u := ⟨_, List.getElem?_eq_getElem (by rw [HN2.out]; exact hU)⟩
  have hev : evAt M (E : Int) = e := list_getD _ he
  have hus : userAt M (U : Int) = u := list_getD _ hu
  rw [hev, hus] at HOK HLT
  have hes := evAt_size HS.out (E : Int); rw [hev] at hes
  have hus2 := userAt_size HS.out (U : Int); rw [hus] at hus2
  have hm3 := HM.out.below HB3.out
  obtain ⟨be, oe, ke, sv, eq, hev3⟩ := hm3.event_at he
  rw [HN5.out] at eq
  cases eq
  obtain ⟨bu, ou, ku, eq, hst3⟩ := hm3.users.st hu
  rw [HN2.out] at eq
  cases eq
  obtain ⟨asl, ks, esv⟩ := hev3.sets.len
  have hxs := hev3.sets.max
  obtain ⟨ns, hns⟩ : ∃ n, e.sets.length = n := ⟨_, rfl⟩
  rw [hns] at esv hxs HOK HLT
  subst esv
  have g0 := hev3.c0; have g1 := hev3.c1; have g2 := hev3.c2; have g3 := hev3.c3; have g4 := hev3.c4; have u0 := hst3.c
  have HEV3 := Lib.hid hev3; have HST3 := Lib.hid hst3; have HNS := Lib.hid hns; have HE := Lib.hid he; have HU := Lib.hid hu
  have hEi : (E : Int) < (n5 : Int) := by omega
  have hE0 : (0 : Int) ≤ (E : Int) := by omega
  have hUi : (U : Int) < (n2 : Int) := by omega
  have hU0 : (0 : Int) ≤ (U : Int) := by omega
  have HI1 : Hid (∀ q, Calls Tryd.prog 13 #[.int .i64 E, .int .i64 n5] (w3.drewN q) fun e w' => e = .returned (.bool true) ∧ w' = w3.drewN q) := fun q => (tin_any E n5 _).mono fun e w' h => ⟨by rw [h.1, h1], h.2.symm⟩
  have HI2 : Hid (∀ q, Calls Tryd.prog 13 #[.int .i64 U, .int .i64 n2] (w3.drewN q) fun e w' => e = .returned (.bool true) ∧ w' = w3.drewN q) := fun q => (tin_any U n2 _).mono fun e w' h => ⟨by rw [h.1, h2], h.2.symm⟩
  rw [h1, h2] at HOK
  clear h1 h2 hev hus hm3 hev3 hst3 hns he hu
  by_cases h3 : nv = ns
  rotate_left
  · have HF : Hid (lineOK M v = false) := by unfold Hid; rw [HOK.out, decide_eq_false h3]; rfl
    have h3b : ((nv : Int) != (ns : Int)) = true := by simp; omega
    clear h3
    go_upto_region 3 with fail
    go_quiet ((go_at_call 13; first | (with_reducible exact Calls.quiet_of_same (HI1.out _)) | (with_reducible exact Calls.quiet_of_same (HI2.out _))))
    have HB4 := Lib.hid (below_drewN HB3.out nq)
    go_wp2_with fail
    go_ret2
    exact ⟨_, by rw [HF.out]; rfl, Lib.hid (fun h => by rw [HF.out] at h; cases h), HB4.out⟩
  subst h3
  have HOK2 : Hid (lineOK M v = (nameOK e.name && nameOK u && setsOK M.attrs e.sets nv)) := by unfold Hid; rw [HOK.out, decide_eq_true rfl]; rfl
  clear HOK
  go_upto_region 3 with fail
  go_quiet ((go_at_call 13; first | (with_reducible exact Calls.quiet_of_same (HI1.out _)) | (with_reducible exact Calls.quiet_of_same (HI2.out _))))
  obtain ⟨w4, hw4⟩ : ∃ W, w3.drewN nq = W := ⟨_, rfl⟩
  have hb34 : Below w3.heap.size w3 w4 := by rw [← hw4]; exact below_drewN (Below.refl _ _) nq
  rw [hw4]
  have HB4 := Lib.hid (HB3.out.trans (hb34.mono HB3.out.size))
  have HXM4 := Lib.hid (HXM3.out.keep hb34)
  have HXV4 := Lib.hid (HXV3.out.keep hb34)
  have hev4 := HEV3.out.below hb34
  have hst4 := HST3.out.below hb34
  clear c0 c2 c5 d0 d1 d2 g0 g1 g2 g3 g4 u0 hw4 HI1 HI2 HXM3 HXV3 HEV3 HST3 HB3 hb34
  have c0 := HXM4.out.cell (i := 0) rfl; have c2 := HXM4.out.cell (i := 2) rfl; have c5 := HXM4.out.cell (i := 5) rfl
  have d0 := HXV4.out.cell (i := 0) rfl; have d1 := HXV4.out.cell (i := 1) rfl; have d2 := HXV4.out.cell (i := 2) rfl
  have g0 := hev4.c0; have g1 := hev4.c1; have g2 := hev4.c2; have g3 := hev4.c3; have g4 := hev4.c4; have u0 := hst4.c
  have hbe4 := hev4.lt; have hbu4 := hst4.lt; have hxl4 := HXV4.out.lt; have hxm4 := HXM4.out.lt
  have HEV4 := Lib.hid hev4; have HST4 := Lib.hid hst4
  clear hev4 hst4
  have HFA : Hid (∀ W, Below w4.heap.size w4 W → Blk (W.alloc (.cells #[.string e.name, .int .i64 e.role, .int .i64 e.stage, .slice asl nv ks, .int .i64 e.times] 49)) W.heap.size #[.string e.name, .int .i64 e.role, .int .i64 e.stage, .slice asl nv ks, .int .i64 e.times] 49) := fun W _ => Blk.new _ _ _
  go_upto_region 5 with fail
  go_cut [2, 3, 6, 7] (fun s2 s3 s6 s7 wx => s2 = .pointer (some ⟨w.heap.size, 0, none⟩) ∧ s3 = .pointer (some ⟨w.heap.size + 1, 0, none⟩) ∧ s7 = .string u ∧ ∃ b6 : Nat, s6 = .pointer (some ⟨b6, 0, none⟩) ∧ Hid (Blk wx b6 #[.string e.name, .int .i64 e.role, .int .i64 e.stage, .slice asl nv ks, .int .i64 e.times] 49 ∧ Below w4.heap.size w4 wx))
  case first =>
    go_region
    all_goals
      go_wp2_with fail
      go_meet
      first
      | exact ⟨rfl, rfl, rfl, _, rfl, Lib.hid ⟨Blk.new _ _ _, ((Below.refl w4.heap.size w4).alloc (Nat.le_refl _) _).drew⟩⟩
      | exact ⟨rfl, rfl, rfl, _, rfl, Lib.hid ⟨Blk.new _ _ _, ((Below.refl w4.heap.size w4).drew).alloc (Nat.le_refl _) _⟩⟩
  case rest =>
    obtain ⟨rfl, rfl, rfl, b6, rfl, HC⟩ := hcut
    have HB5 := Lib.hid (HB4.out.trans (HC.out.2.mono HB4.out.size))
    have HXM5 := Lib.hid (HXM4.out.keep HC.out.2)
    have HXV5 := Lib.hid (HXV4.out.keep HC.out.2)
    have HEV5 := Lib.hid (HEV4.out.below HC.out.2)
    have HX5 := Lib.hid HC.out.1
    clear c0 c2 c5 d0 d1 d2 g0 g1 g2 g3 g4 u0 HXM4 HXV4 HEV4 HST4 HB4 HFA HC hbe4 hbu4 hxl4 hxm4
    obtain ⟨w5, rfl⟩ : ∃ W, W = wc := ⟨_, rfl⟩
    obtain ⟨q1, hq1⟩ : ∃ q, nameOK e.name = q := ⟨_, rfl⟩
    obtain ⟨q2, hq2⟩ : ∃ q, nameOK u = q := ⟨_, rfl⟩
    rw [hq1, hq2] at HOK2
    have HNM : Hid (∀ W, MaxCell W → Calls Tryd.prog 14 #[.string e.name] W fun e w' => e = .returned (.bool q1) ∧ Below W.heap.size W w') := fun W h => by rw [← hq1]; exact name_yes e.name W h (by omega)
    have HNU : Hid (∀ W, MaxCell W → Calls Tryd.prog 14 #[.string u] W fun e w' => e = .returned (.bool q2) ∧ Below W.heap.size W w') := fun W h => by rw [← hq2]; exact name_yes u W h (by omega)
    have e0 := HX5.out.cell (i := 0) rfl
    clear hq1 hq2
    go_upto_region 6 with fail
    go_cut [2, 3, 6, 7, 8] (fun s2 s3 s6 s7 s8 wx => s2 = .pointer (some ⟨w.heap.size, 0, none⟩) ∧ s3 = .pointer (some ⟨w.heap.size + 1, 0, none⟩) ∧ s6 = .pointer (some ⟨b6, 0, none⟩) ∧ s7 = .string u ∧ s8 = .bool (q1 && q2) ∧ Hid (Below w5.heap.size w5 wx))
    case first =>
      go_wp2_with fail
      refine (HNM.out _ (HT.out.keep HB5.out).mx).mono ?_
      rintro e' w6 ⟨rfl, hb6⟩
      have HB6 := Lib.hid (HB5.out.trans (hb6.mono HB5.out.size))
      have HB56 := Lib.hid hb6
      clear hb6
      cases q1
      · go_wp2_with fail
        go_meet
        exact ⟨rfl, rfl, rfl, rfl, rfl, HB56⟩
      · go_wp2_with fail
        refine (HNU.out _ (HT.out.keep HB6.out).mx).mono ?_
        rintro e' w7 ⟨rfl, hb7⟩
        have HB7 := Lib.hid (HB56.out.trans (hb7.mono HB56.out.size))
        clear hb7
        cases q2
        · go_wp2_with fail
          go_meet
          exact ⟨rfl, rfl, rfl, rfl, rfl, HB7⟩
        · go_wp2_with fail
          go_meet
          exact ⟨rfl, rfl, rfl, rfl, rfl, HB7⟩
    case rest =>
      clear e0 HNM HNU
      obtain ⟨rfl, rfl, rfl, rfl, rfl, HC⟩ := hcut
      obtain ⟨wl, rfl⟩ : ∃ W, W = wc := ⟨_, rfl⟩
      have HBL := Lib.hid (HB5.out.trans (HC.out.mono HB5.out.size))
      have HXML := Lib.hid (HXM5.out.keep HC.out)
      have HXVL := Lib.hid (HXV5.out.keep HC.out)
      have HSEL := Lib.hid (HEV5.out.sets.below intE_keep HC.out)
      have HXEL := Lib.hid (HX5.out.keep HC.out)
      have e3 := HXEL.out.cell (i := 3) rfl
      clear HB5 HXM5 HXV5 HEV5 HX5 HC
      go_wp2_with fail
      go_loopw [9, 67] (fun s9 s67 wr => ∃ k : Nat, k ≤ nv ∧ s67 = .int .i64 k ∧ ∃ (x : Option Addr) (y : Nat), s9 = .slice x k y ∧ Hid (setsOK M.attrs e.sets k = true) ∧ Hid (wr.ownsRow wl.heap.size 9 1 (.slice x k y) k (strC (piecesL M.attrs e.sets v.vals k))) ∧ Hid (Below wl.heap.size wl wr)) (fun _ i _ => nv - (intOf i).toNat)
      case atStart => exact ⟨0, Nat.zero_le _, rfl, none, 0, rfl, rfl, World.ownsRow_nil _ _ _ _, Below.refl _ _⟩
      case round =>
        clear e3
        obtain ⟨k, hk, rfl, x, y, rfl, HSO, HRW, HB⟩ := hrel
        by_cases hlt : k < nv
        · have hkn : (k : Int) < (nv : Int) := by omega
          have hk0 : (0 : Int) ≤ (k : Int) := by omega
          obtain ⟨a, ha⟩ : ∃ a, e.sets[k]? = some a := ⟨_, List.getElem?_eq_getElem (by rw [HNS.out]; exact hlt)⟩
          obtain ⟨xv, hxv2⟩ : ∃ a, v.vals[k]? = some a := ⟨_, List.getElem?_eq_getElem (by rw [HNV.out]; exact hlt)⟩
          obtain ⟨bs, os, cs, eq, hbs, _⟩ := HSEL.out.int ha
          rw [HNS.out] at eq
          cases eq
          obtain ⟨_, _, _, eq, _, s0⟩ := (HSEL.out.below intE_keep HB.out).int ha
          rw [HNS.out] at eq
          cases eq
          have hga : e.sets.getD k 0 = a := list_getD _ ha
          have HBW := Lib.hid (HBL.out.trans (HB.out.mono HBL.out.size))
          have m0' := (HXML.out.keep HB.out).cell (i := 0) rfl
          by_cases h1 : inZ a n0 = true
          rotate_left
          · rw [Bool.not_eq_true] at h1
            have HF : Hid (lineOK M v = false) := by
              unfold Hid; rw [HOK2.out, setsOK_back hlt (by unfold attrOK; rw [hga, HN0.out, h1]; rfl), Bool.and_false]
            have HI1 : Hid (Calls Tryd.prog 13 #[.int .i64 a, .int .i64 n0] wr fun e w' => e = .returned (.bool false) ∧ wr = w') := (tin_any a n0 _).mono fun e w' h => ⟨by rw [h.1, h1], h.2⟩
            clear ha hxv2 hga h1
            go_wp2_with fail
            refine HI1.out.mono ?_
            rintro e' w' ⟨rfl, rfl⟩
            go_wp2_with fail
            go_ret2
            exact ⟨_, by rw [HF.out]; rfl, Lib.hid (fun h => by rw [HF.out] at h; cases h), HBW.out⟩
          obtain ⟨A, rfl, hA⟩ := inZ_nat h1
          obtain ⟨sa, hsa⟩ : ∃ s, M.attrs[A]? = some s := ⟨_, List.getElem?_eq_getElem (by rw [HN0.out]; exact hA)⟩
          have hat : attrAt M.attrs (A : Int) = sa := list_getD _ hsa
          have hsz := attrAt_size HS.out (A : Int)
          rw [hat] at hsz
          obtain ⟨ba, oa, ca, eq, hstL⟩ := (HM.out.below HBL.out).attrs.st hsa
          rw [HN0.out] at eq
          cases eq
          have HI1 : Hid (Calls Tryd.prog 13 #[.int .i64 A, .int .i64 n0] wr fun e w' => e = .returned (.bool true) ∧ wr = w') := (tin_any A n0 _).mono fun e w' h => ⟨by rw [h.1, h1], h.2⟩
          have hAi : (A : Int) < (n0 : Int) := by omega
          have hA0 : (0 : Int) ≤ (A : Int) := by omega
          have t0 := (hstL.below HB.out).c
          obtain ⟨q3, hq3⟩ : ∃ q, nameOK sa = q := ⟨_, rfl⟩
          have HN3 := Lib.hid (name_yes sa wr (HT.out.keep HBW.out).mx (by omega))
          rw [hq3] at HN3
          have hao : attrOK M.attrs (e.sets.getD k 0) = q3 := by unfold attrOK; rw [hga, HN0.out, h1, hat, hq3]; rfl
          have hpc : pieceT M.attrs e.sets v.vals k = sa ++ eqW ++ itoaB xv := by unfold pieceT; rw [hga, hat, list_getD _ hxv2]
          have HAO := Lib.hid hao
          have HPC := Lib.hid hpc
          have HSTL := Lib.hid hstL
          have HX6 := Lib.hid (val_in HSV.out k)
          rw [list_getD _ hxv2] at HX6
          have HXV2 := Lib.hid hxv2
          clear ha hxv2 hga h1 hsa hat hq3 hao hpc hstL
          go_wp2_with fail
          refine HI1.out.mono ?_
          rintro e' w' ⟨rfl, rfl⟩
          go_wp2_with fail
          refine HN3.out.mono ?_
          rintro e' wn ⟨rfl, hbn⟩
          have HBN := Lib.hid (HB.out.trans (hbn.mono HB.out.size))
          have HRN := Lib.hid (owns_below HRW.out hbn)
          clear hbn s0 m0' t0 HB HRW HI1 HN3
          cases q3
          · have HF : Hid (lineOK M v = false) := by
              unfold Hid; rw [HOK2.out, setsOK_back hlt HAO.out, Bool.and_false]
            have HBW2 := Lib.hid (HBL.out.trans (HBN.out.mono HBL.out.size))
            go_wp2_with fail
            go_ret2
            exact ⟨_, by rw [HF.out]; rfl, Lib.hid (fun h => by rw [HF.out] at h; cases h), HBW2.out⟩
          have HSO2 : Hid (setsOK M.attrs e.sets (k + 1) = true) := by unfold Hid; rw [setsOK_succ, HSO.out, HAO.out]; rfl
          obtain ⟨bv, ov, cv, eq, hbv, _⟩ := (HV.out.below intE_keep HBL.out).int HXV2.out
          rw [HNV.out] at eq
          cases eq
          have HSF : Hid (∀ W, Below wl.heap.size wl W → W.cell? ⟨w.heap.size, 0, none⟩ = some (.slice (some ⟨ba, oa, none⟩) n0 k0) ∧ W.cell? ⟨ba, oa + A, none⟩ = some (.string sa) ∧ W.cell? ⟨w.heap.size + 1, 2, none⟩ = some (.slice (some ⟨bv, ov, none⟩) nv kv) ∧ W.cell? ⟨bv, ov + k, none⟩ = some (.int .i64 xv)) := by
            intro W hW
            obtain ⟨_, _, _, eq, _, z0⟩ := ((HV.out.below intE_keep HBL.out).below intE_keep hW).int HXV2.out
            rw [HNV.out] at eq
            cases eq
            exact ⟨(HXML.out.keep hW).cell (i := 0) rfl, (HSTL.out.below hW).c, (HXVL.out.keep hW).cell (i := 2) rfl, z0⟩
          obtain ⟨r0, r1, r2, r3⟩ := HSF.out wn HBN.out
          obtain ⟨pr, hpr⟩ : ∃ pr, itoaB xv = pr := ⟨_, rfl⟩
          have hprs := itoa_size xv HX6.out
          have HPR : Hid (∀ W, Below wl.heap.size wl W → Calls Tryd.prog 15 #[.int .i64 xv] W fun e w' => e = .returned (.string pr) ∧ Below W.heap.size W w') := fun W hW => by
            rw [← hpr]; exact print_any (HT.out.keep (HBL.out.trans (hW.mono HBL.out.size))) xv HX6.out.1 HX6.out.2
          rw [hpr] at HPC hprs
          have hn1 : ¬ 9223372036854775807 < sa.size + 3 := cat1 hsz (by decide)
          have hn2 : ¬ 9223372036854775807 < sa.size + 3 + pr.size := cat2 hsz hprs (by decide)
          have hbz : Below wl.heap.size wl wn.drew := HBN.out.drew
          have HRZ := Lib.hid (World.ownsRow.drew HRN.out)
          have hnvb : nv ≤ 20 := by have := HSV.out.1; rw [HNV.out] at this; exact this
          have hby16 := small16 hlt hnvb
          clear hpr HX6 HAO HSO HXV2
          go_upto_region 13 with fail
          go_region_held3 (fun w' => w'.cell? ⟨w.heap.size, 0, none⟩ = some (.slice (some ⟨ba, oa, none⟩) n0 k0) ∧ w'.cell? ⟨ba, oa + A, none⟩ = some (.string sa) ∧ w'.cell? ⟨w.heap.size + 1, 2, none⟩ = some (.slice (some ⟨bv, ov, none⟩) nv kv) ∧ w'.cell? ⟨bv, ov + k, none⟩ = some (.int .i64 xv))
              (first | (with_reducible exact HSF.out _ (by assumption)) | go_keep)
              (first
                | (go_simp; go_at_call 15; (with_reducible refine (HPR.out _ (by assumption)).mono ?_)
                   rintro e' w12 ⟨rfl, hbs⟩
                   have HRB := Lib.hid (owns_below HRZ.out hbs)
                   have hbz := hbz.trans (hbs.mono hbz.size)
                   have hbz2 : Below wl.heap.size wl (w12.alloc (.cells #[.string (sa ++ { data := #[32, 61, 32] } ++ pr)] 9)) := hbz.alloc hbz.size _
                   clear hbs)
                | (have hro := HRB.out.alloc (.cells #[.string (sa ++ { data := #[32, 61, 32] } ++ pr)] 9)
                   have HRD : Hid (RdK (w12.alloc (.cells #[.string (sa ++ { data := #[32, 61, 32] } ++ pr)] 9)) 1 (.slice (some ⟨w12.heap.size, 0, none⟩) 1 1) 1 (strC [sa ++ { data := #[32, 61, 32] } ++ pr])) := by
                     refine ⟨_, _, rfl, rfl, .inr ⟨w12.heap.size, 0, rfl, by simp, fun t x hx => ?_⟩⟩
                     rw [World.cell?_alloc_at _ _ _ _ (by simp)]
                     simpa [strC] using hx
                   refine step_appX (w := w12.alloc (.cells #[.string (sa ++ { data := #[32, 61, 32] } ++ pr)] 9)) (by rfl) (.tmp 87) (.tmp 101) 22 (by rfl) 9 (.string ⟨#[]⟩) 1 16 wl.heap.size Tryd.underlying22 info_strT rfl (by decide) (by decide) (.slice x k y) k (strC (piecesL M.attrs e.sets v.vals k)) (by rfl) hro 1 (strC [sa ++ { data := #[32, 61, 32] } ++ pr]) ⟨_, by rfl, HRD.out⟩ (strC_one _) hby16 hbz2.size ?_
                   intro v' w13 ho13 hg13
                   have hbz := hbz2.grown hg13 hbz2.size (fun k e => (hro.lt k e).1)
                   obtain ⟨x1', y1', hv'⟩ := owns_len ho13
                   subst hv'
                   have HO13 : Hid (w13.ownsRow wl.heap.size 9 1 (.slice x1' (k + 1) y1') (k + 1) (strC (piecesL M.attrs e.sets v.vals (k + 1)))) := by
                     unfold Hid; rw [piecesL_succ, HPC.out, strC_snoc]; exact ho13
                   clear ho13 hg13 hro))
          all_goals
            go_wp2_with fail
            go_roundw
            case rel => exact ⟨k + 1, by omega, by go_num, x1', y1', rfl, HSO2, HO13, Lib.hid hbz⟩
            case measure => simp [intOf]; omega
        · obtain rfl : k = nv := by omega
          have HFL : Hid (lineOK M v = (q1 && q2)) := by unfold Hid; rw [HOK2.out, HSO.out, Bool.and_true]
          have HBW := Lib.hid (HBL.out.trans (HB.out.mono HBL.out.size))
          have e0 := (HXEL.out.keep HB.out).cell (i := 0) rfl
          have hn1 : ¬ 9223372036854775807 < e.name.size + 4 := cat1 hes (by decide)
          have hn2 : ¬ 9223372036854775807 < e.name.size + 4 + u.size := cat2 hes hus2 (by decide)
          have hn3 : ¬ 9223372036854775807 < e.name.size + 4 + u.size + 2 := cat3 hes hus2 (by decide)
          by_cases h0 : k = 0
          · subst h0
            have HLT2 : Hid (lineT M v = e.name ++ byW ++ u ++ endW) := by unfold Hid; rw [HLT.out]; rfl
            clear HLT
            go_wp2_with fail
            go_ret2
            exact ⟨_, by rw [HFL.out]; rfl, Lib.hid (fun _ => HLT2.out.symm), HBW.out⟩
          · obtain ⟨K, hK⟩ : ∃ K, k = K + 1 := ⟨k - 1, by omega⟩
            have hkz : (0 : Int) < (k : Int) := by omega
            obtain ⟨g, cap, eq, hgb, hgl⟩ := owns_shape HRW.out (by omega)
            cases eq
            have hcap := owns_capT HRW.out
            obtain ⟨J, hJ⟩ : ∃ J, joinB (piecesL M.attrs e.sets v.vals k) = J := ⟨_, rfl⟩
            have HLT2 : Hid (lineT M v = e.name ++ byW ++ u ++ (setsW ++ J) ++ endW) := by
              unfold Hid; rw [HLT.out, ← hJ]
              rw [hK, acc_join]
            have hJs : J.size ≤ 2000 := by
              have h := acc_size HS.out HSV.out e.sets noneW k
              rw [hK, acc_join, ← hK, hJ, ba_cat, ba_cat] at h
              have h2 : noneW.size = 0 := rfl
              have h3 := HSV.out.1
              rw [HNV.out] at h3
              omega
            have hjl : (Lib.join ((piecesL M.attrs e.sets v.vals k).map (·.data.toList)) commaW.data.toList).length ≤ 140737488355328 := by
              have : (joinB (piecesL M.attrs e.sets v.vals k)).size = (Lib.join ((piecesL M.attrs e.sets v.vals k).map (·.data.toList)) commaW.data.toList).length := by
                show (Lib.join _ _).toArray.size = _; simp
              rw [← this, hJ]; omega
            have hk20 : k ≤ 20 := by have := HSV.out.1; rw [HNV.out] at this; exact this
            have HJN := Lib.hid (join_row (sep := commaW) HRW.out (piecesL_len _ _ _ _) hgl hcap (small47 hk20) hJ hjl)
            have hn4 : ¬ 9223372036854775807 < 6 + J.size := cat0 hJs (by decide)
            have hn5 : ¬ 9223372036854775807 < e.name.size + 4 + u.size + (6 + J.size) := cat4 hes hus2 hJs (by decide)
            have hn6 : ¬ 9223372036854775807 < e.name.size + 4 + u.size + (6 + J.size) + 2 := cat5 hes hus2 hJs (by decide)
            clear HLT hJ hjl hcap hK h0
            go_wp2_with fail
            refine HJN.out.mono ?_
            rintro e' wj ⟨rfl, hbj⟩
            have HBJ := Lib.hid (HBW.out.trans (hbj.mono HBW.out.size))
            clear hbj
            go_wp2_with fail
            go_ret2
            exact ⟨_, by rw [HFL.out]; rfl, Lib.hid (fun _ => HLT2.out.symm), HBJ.out⟩

end Go.Proofs.YtgmijfmbbaipfaaDoor
