/- Contract of warderref05.Whole (printed by gen_rwhole.py). Contract of warderref04.Exact, for two lists of the same items. What Whole hands back, as a list of items. awake of warderlaw05. Contract of the law CondReads. -/
import Derived.Test.YtignjhbajjephaaGreatDoorCr25
import Derived.Test.YtignjhbajjephaaGreatDoorCr41
import Derived.Test.YtignjhbajjephaaGreatDoorCr45
import Derived.Test.YtignjhbajjephaaGreatDoorCr01
import Derived.Test.YtignjhbajjephaaGreatDoorCr02

namespace Go.Proofs.YtignjhbajjephaaGreatDoor
open Go.RowKit

set_option maxRecDepth 100000 in
set_option maxHeartbeats 4000000 in
theorem rwhole_any (s : ByteArray) (prop : Bool) (w : World) (hs : s.size ≤ 4294967200) :
    Calls Tryz.prog 6 #[.string s, .bool prop] w (WholePost w (wholeP s prop)) := by
  have HTK := Lib.hid (rtokens_any s (w.alloc (.cells #[.int .i64 0, .int .i64 0, .int .i64 0] 28)) hs)
  have HF0 : FtB (w.alloc (.cells #[.int .i64 0, .int .i64 0, .int .i64 0] 28)) w.heap.size 0 0 0 := heap_alloc_new w _
  have hb0 : Below w.heap.size w (w.alloc (.cells #[.int .i64 0, .int .i64 0, .int .i64 0] 28)) := (Below.refl _ w).alloc (Nat.le_refl _) _
  have hsz0 : (w.alloc (.cells #[.int .i64 0, .int .i64 0, .int .i64 0] 28)).heap.size = w.heap.size + 1 := by simp
  obtain ⟨er, her⟩ : ∃ e, (tokRes s).er = e := ⟨_, rfl⟩
  obtain ⟨tl, htl⟩ : ∃ e, (tokRes s).line = e := ⟨_, rfl⟩
  obtain ⟨tc, htc⟩ : ∃ e, (tokRes s).col = e := ⟨_, rfl⟩
  have HER := Lib.hid her; have HTL := Lib.hid htl; have HTC := Lib.hid htc
  have HF0 := Lib.hid HF0; have HB0 := Lib.hid hb0; have HS0 := Lib.hid hsz0
  clear hb0 hsz0 htl htc
  by_cases h0 : er = 0
  · subst h0
    obtain ⟨X, hX, hXl⟩ := tokRes_end s her
    obtain ⟨T, hT⟩ : ∃ T, (tokRes s).T = T := ⟨_, rfl⟩
    have HT := Lib.hid hT
    have hTl : T.length ≤ 1000000 := by rw [← hT, hX]; simp; omega
    have hEnd : ∀ a : Int, (tkAt T (a - 1)).kind ≠ 5 → 0 < a → a ≤ T.length → a < T.length := by
      intro a h1 h2 h3
      refine Classical.byContradiction fun h4 => h1 ?_
      have e : a - 1 = ((X.length : Nat) : Int) := by rw [← hT, hX] at h3 h4; simp at h3 h4; omega
      have : T[X.length]? = some (endTk s) := by rw [← hT, hX]; simp
      rw [e, tkAt_some this]; rfl
    have HEND := Lib.hid hEnd
    have HTP := Lib.hid (show 0 < T.length by rw [← hT, hX]; simp)
    have HTL6 := Lib.hid hTl
    have HU : Hid (wholeP s prop = match readP T prop 0 with
      | .bad e l c => .bad e l c
      | .ok o a => if (tkAt T a).kind = 5 then .ok o a else .bad 4 (tkAt T a).line (tkAt T a).col) := by unfold Hid wholeP; rw [if_neg (by omega), hT]; rfl
    clear hX hXl hEnd hT her
    cases hp : readP T prop 0 with
    | bad e l c =>
      have hne := readP_no hp
      have hneb : (e != 0) = true := by simpa using hne
      have hneb0 : (e == 0) = false := beq_eq_false_iff_ne.2 hne
      have HP := Lib.hid hp
      unfold Hid at HU
      rw [hp] at HU
      replace HU := Lib.hid HU
      clear hp hne
      go_enter Tryz.func6, Tryz.ntmps6
      go_wp2_with fail
      refine HTK.out.mono ?_
      rintro en w1 ⟨v, rfl, hown, hb1⟩
      rw [HT.out] at hown
      rw [HER.out, faultV_ok]
      obtain ⟨g, cap, hv, hg, hgs⟩ := owns_shape hown HTP.out
      rw [HS0.out] at hg
      subst hv
      have hf1 := (HF0.out.below hb1).alloc (.cells #[.int .i64 0, .int .i64 0, .int .i64 0] 28)
      have hf7 : FtB (w1.alloc (.cells #[.int .i64 0, .int .i64 0, .int .i64 0] 28)) w1.heap.size 0 0 0 := heap_alloc_new w1 _
      have hal := (Below.refl w1.heap.size w1).alloc (Nat.le_refl _) (.cells #[.int .i64 0, .int .i64 0, .int .i64 0] 28)
      have HOW := Lib.hid (hown.alloc (.cells #[.int .i64 0, .int .i64 0, .int .i64 0] 28))
      have HBB := Lib.hid ((HB0.out.trans (hb1.mono HB0.out.size)).trans (hal.mono (Nat.le_trans HB0.out.size hb1.size)))
      have hlt := (HF0.out.below hb1).lt
      have F1 := Lib.hid hf1; have F7 := Lib.hid hf7
      have hs1 := hb1.size
      rw [HS0.out] at hs1
      clear hown hb1 hf1 hf7 hal
      go_wp2_with fail
      refine (rread_any (tkIn_owns HOW.out (Nat.le_refl _) HTL6.out) (Nat.le_refl _) 0 prop (by omega) (by omega)).mono ?_
      rw [HP.out]
      rintro en w2 ⟨rfl, hb2⟩
      have f5 := F1.out.below hb2
      have f7 := F7.out.below hb2
      obtain ⟨q0, q1, q2⟩ := f5.facts
      obtain ⟨z0, z1, z2⟩ := f5.free
      obtain ⟨p0, p1, p2⟩ := f7.facts
      obtain ⟨y0, y1, y2⟩ := f7.free
      have hl5 := f5.lt
      have hl7 := f7.lt
      have HB2 := Lib.hid (HBB.out.trans (hb2.mono HBB.out.size))
      clear f5 f7 hb2
      go_wp2
      go_region
      go_wp2
      refine bodyPost_ret (v := .tuple #[.slice none 0 0, .agg #[.int .i64 e, .int .i64 l, .int .i64 c]]) (by simp [results, Tryz.results6, go_sem, q0, q1, q2]) rfl ?_
      rw [HU.out]
      exact ⟨rfl, (below_fault (below_fault HB2.out (by omega) _ _ _) (Nat.le_refl _) _ _ _).drew⟩
    | ok o a =>
      have hin := readP_in hp
      have haT := HEND.out a hin.2.2.2 (by omega) hin.2.2.1
      obtain ⟨ka, hka⟩ : ∃ ka : Nat, a = ka := ⟨a.toNat, by omega⟩
      subst hka
      have hkT : ka < T.length := by omega
      obtain ⟨y, hy⟩ : ∃ y, T[ka]? = some y := ⟨_, List.getElem?_eq_getElem hkT⟩
      have HY := Lib.hid hy
      have HYA := Lib.hid (tkAt_some hy)
      have HP := Lib.hid hp
      unfold Hid at HU
      rw [hp] at HU
      dsimp only at HU
      rw [HYA.out] at HU
      replace HU := Lib.hid HU
      have hkz : (ka : Int) < (T.length : Int) := by omega
      have hkz0 : (0 : Int) ≤ (ka : Int) := by omega
      clear hp hin haT hy
      by_cases h5 : y.kind = 5
      · have h5b : (y.kind != 5) = false := by simp [h5]
        have HU : Hid (wholeP s prop = .ok o ka) := by unfold Hid; rw [HU.out, if_pos h5]
        clear h5
        go_enter Tryz.func6, Tryz.ntmps6
        go_wp2_with fail
        refine HTK.out.mono ?_
        rintro en w1 ⟨v, rfl, hown, hb1⟩
        rw [HT.out] at hown
        rw [HER.out, faultV_ok]
        obtain ⟨g, cap, hv, hg, hgs⟩ := owns_shape hown HTP.out
        rw [HS0.out] at hg
        subst hv
        have hf1 := (HF0.out.below hb1).alloc (.cells #[.int .i64 0, .int .i64 0, .int .i64 0] 28)
        have hf7 : FtB (w1.alloc (.cells #[.int .i64 0, .int .i64 0, .int .i64 0] 28)) w1.heap.size 0 0 0 := heap_alloc_new w1 _
        have hal := (Below.refl w1.heap.size w1).alloc (Nat.le_refl _) (.cells #[.int .i64 0, .int .i64 0, .int .i64 0] 28)
        have HOW := Lib.hid (hown.alloc (.cells #[.int .i64 0, .int .i64 0, .int .i64 0] 28))
        have HBB := Lib.hid ((HB0.out.trans (hb1.mono HB0.out.size)).trans (hal.mono (Nat.le_trans HB0.out.size hb1.size)))
        have hlt := (HF0.out.below hb1).lt
        have F1 := Lib.hid hf1; have F7 := Lib.hid hf7
        have hs1 := hb1.size
        rw [HS0.out] at hs1
        clear hown hb1 hf1 hf7 hal
        go_wp2_with fail
        refine (rread_any (tkIn_owns HOW.out (Nat.le_refl _) HTL6.out) (Nat.le_refl _) 0 prop (by omega) (by omega)).mono ?_
        rw [HP.out]
        rintro en w2 ⟨v2, rfl, hown2, hb2⟩
        obtain ⟨ad2, cap2, rfl⟩ := owns_len hown2
        have f5 := F1.out.below hb2
        have f7 := F7.out.below hb2
        obtain ⟨q0, q1, q2⟩ := f5.facts
        obtain ⟨z0, z1, z2⟩ := f5.free
        obtain ⟨p0, p1, p2⟩ := f7.facts
        obtain ⟨y0, y1, y2⟩ := f7.free
        have hl5 := f5.lt
        have hl7 := f7.lt
        have ho2 := owns_below HOW.out hb2
        have hgl : g < w2.heap.size := (ho2.lt g rfl).2
        have cell : ∀ j, j < 5 → w2.cell? ⟨g, ka * 5 + j, none⟩ = (tkCells y)[j]? := fun j hj => by
          rw [World.ownsRow.cellAt ho2 (ka * 5 + j) (by omega), tkFlat_get T ka j y HY.out hj]
        have d0 := cell 0 (by omega); have d1 := cell 1 (by omega); have d2 := cell 2 (by omega); have d3 := cell 3 (by omega); have d4 := cell 4 (by omega)
        simp only [tkCells, List.getElem?_cons_zero, List.getElem?_cons_succ, Nat.add_zero] at d0 d1 d2 d3 d4
        have hg1 : g ≠ w.heap.size := by have := hg; omega
        have hg7 : g ≠ w1.heap.size := by have := hgs; omega
        have HB2 := Lib.hid (HBB.out.trans (hb2.mono HBB.out.size))
        have HO2 := Lib.hid hown2
        have F52 := Lib.hid f5; have F72 := Lib.hid f7
        clear f5 f7 hb2 ho2 cell hown2
        have hne57 : w.heap.size ≠ w1.heap.size := by omega
        have OWN := Lib.hid (FtB.row (F52.out.over hne57 (.int .i64 0) (.int .i64 0) (.int .i64 0)) (F72.out.row HO2.out (by decide) 0 0 0) (by decide) 0 0 0)
        have BEL := Lib.hid (below_fault (below_fault HB2.out (show w.heap.size ≤ w1.heap.size by omega) (.int .i64 0) (.int .i64 0) (.int .i64 0)) (Nat.le_refl _) (.int .i64 0) (.int .i64 0) (.int .i64 0))
        go_wp2
        go_region
        go_wp2
        refine bodyPost_ret (v := .tuple #[.slice ad2 o.length cap2, .agg #[.int .i64 0, .int .i64 0, .int .i64 0]]) (by simp [results, Tryz.results6, go_sem, q0, q1, q2]) rfl ?_
        rw [HU.out]
        exact ⟨_, rfl, owns_mono OWN.out.drew (by simp; omega), BEL.out.drew⟩
      · have h5b : (y.kind != 5) = true := by simpa using h5
        have HU : Hid (wholeP s prop = .bad 4 y.line y.col) := by unfold Hid; rw [HU.out, if_neg h5]
        clear h5
        go_enter Tryz.func6, Tryz.ntmps6
        go_wp2_with fail
        refine HTK.out.mono ?_
        rintro en w1 ⟨v, rfl, hown, hb1⟩
        rw [HT.out] at hown
        rw [HER.out, faultV_ok]
        obtain ⟨g, cap, hv, hg, hgs⟩ := owns_shape hown HTP.out
        rw [HS0.out] at hg
        subst hv
        have hf1 := (HF0.out.below hb1).alloc (.cells #[.int .i64 0, .int .i64 0, .int .i64 0] 28)
        have hf7 : FtB (w1.alloc (.cells #[.int .i64 0, .int .i64 0, .int .i64 0] 28)) w1.heap.size 0 0 0 := heap_alloc_new w1 _
        have hal := (Below.refl w1.heap.size w1).alloc (Nat.le_refl _) (.cells #[.int .i64 0, .int .i64 0, .int .i64 0] 28)
        have HOW := Lib.hid (hown.alloc (.cells #[.int .i64 0, .int .i64 0, .int .i64 0] 28))
        have HBB := Lib.hid ((HB0.out.trans (hb1.mono HB0.out.size)).trans (hal.mono (Nat.le_trans HB0.out.size hb1.size)))
        have hlt := (HF0.out.below hb1).lt
        have F1 := Lib.hid hf1; have F7 := Lib.hid hf7
        have hs1 := hb1.size
        rw [HS0.out] at hs1
        clear hown hb1 hf1 hf7 hal
        go_wp2_with fail
        refine (rread_any (tkIn_owns HOW.out (Nat.le_refl _) HTL6.out) (Nat.le_refl _) 0 prop (by omega) (by omega)).mono ?_
        rw [HP.out]
        rintro en w2 ⟨v2, rfl, hown2, hb2⟩
        obtain ⟨ad2, cap2, rfl⟩ := owns_len hown2
        have f5 := F1.out.below hb2
        have f7 := F7.out.below hb2
        obtain ⟨q0, q1, q2⟩ := f5.facts
        obtain ⟨z0, z1, z2⟩ := f5.free
        obtain ⟨p0, p1, p2⟩ := f7.facts
        obtain ⟨y0, y1, y2⟩ := f7.free
        have hl5 := f5.lt
        have hl7 := f7.lt
        have ho2 := owns_below HOW.out hb2
        have hgl : g < w2.heap.size := (ho2.lt g rfl).2
        have cell : ∀ j, j < 5 → w2.cell? ⟨g, ka * 5 + j, none⟩ = (tkCells y)[j]? := fun j hj => by
          rw [World.ownsRow.cellAt ho2 (ka * 5 + j) (by omega), tkFlat_get T ka j y HY.out hj]
        have d0 := cell 0 (by omega); have d1 := cell 1 (by omega); have d2 := cell 2 (by omega); have d3 := cell 3 (by omega); have d4 := cell 4 (by omega)
        simp only [tkCells, List.getElem?_cons_zero, List.getElem?_cons_succ, Nat.add_zero] at d0 d1 d2 d3 d4
        have hg1 : g ≠ w.heap.size := by have := hg; omega
        have hg7 : g ≠ w1.heap.size := by have := hgs; omega
        have HB2 := Lib.hid (HBB.out.trans (hb2.mono HBB.out.size))
        have HO2 := Lib.hid hown2
        have F52 := Lib.hid f5; have F72 := Lib.hid f7
        clear f5 f7 hb2 ho2 cell hown2
        have hne57 : w.heap.size ≠ w1.heap.size := by omega
        obtain ⟨u0, u1, u2⟩ := ((F72.out.stored 0 0 0).stored 4 y.line y.col).facts
        have BEL := Lib.hid (below_fault (below_fault (below_fault HB2.out (show w.heap.size ≤ w1.heap.size by omega) (.int .i64 0) (.int .i64 0) (.int .i64 0)) (show w.heap.size ≤ w1.heap.size by omega) (.int .i64 4) (.int .i64 y.line) (.int .i64 y.col)) (Nat.le_refl _) (.int .i64 4) (.int .i64 y.line) (.int .i64 y.col))
        go_wp2
        go_region
        go_wp2
        refine bodyPost_ret (v := .tuple #[.slice none 0 0, .agg #[.int .i64 4, .int .i64 y.line, .int .i64 y.col]]) (by simp [results, Tryz.results6, go_sem, q0, q1, q2]) rfl ?_
        rw [HU.out]
        exact ⟨rfl, BEL.out.drew⟩
  · have HE0 := Lib.hid h0
    have HU : Hid (wholeP s prop = .bad er tl tc) := by unfold Hid wholeP; rw [HER.out, if_pos h0, HTL.out, HTC.out]
    have hne : (er != 0) = true := by simpa using h0
    clear h0 her
    go_enter Tryz.func6, Tryz.ntmps6
    go_wp2_with fail
    refine HTK.out.mono ?_
    rintro en w1 ⟨v, rfl, hown, hb1⟩
    rw [HER.out, HTL.out, HTC.out, faultV_no HE0.out]
    have hf1 := HF0.out.below hb1
    obtain ⟨q0, q1, q2⟩ := hf1.facts
    obtain ⟨z0, z1, z2⟩ := hf1.free
    have hlt1 := hf1.lt
    have HBB := Lib.hid (HB0.out.trans (hb1.mono HB0.out.size))
    have HE := Lib.hid ((hf1.stored er tl tc).alloc (.cells #[.int .i64 er, .int .i64 tl, .int .i64 tc] 28)).facts
    clear hown hb1 hf1
    go_wp2
    go_region
    go_wp2
    obtain ⟨e0, e1, e2⟩ := HE.out
    refine bodyPost_ret (v := .tuple #[.slice none 0 0, .agg #[.int .i64 er, .int .i64 tl, .int .i64 tc]]) (by simp [results, Tryz.results6, go_sem, e0, e1, e2]) rfl ?_
    rw [HU.out]
    exact ⟨rfl, ((below_fault HBB.out (Nat.le_refl _) _ _ _).alloc (by have := HBB.out.size; simp; omega) _).drew⟩

end Go.Proofs.YtignjhbajjephaaGreatDoor

namespace Go.Proofs.YtignjhbajjephaaGreatDoor
open Go.RowKit

/-- a slice that reads as items -/
def ItRow (w : World) (v : Value) (T : List It) : Prop := ∃ B, w.ownsRow B 36 9 v T.length (itFlat T)
theorem ItRow.keep {w w' : World} {v : Value} {T : List It} (h : ItRow w v T) (hb : Below w.heap.size w w') : ItRow w' v T := by
  obtain ⟨B, h⟩ := h; exact ⟨B, owns_below h hb⟩
theorem ItRow.drewN {w : World} {v : Value} {T : List It} (h : ItRow w v T) (n : Nat) : ItRow (w.drewN n) v T := h
theorem ItRow.alloc {w : World} {v : Value} {T : List It} (h : ItRow w v T) (o : Obj) : ItRow (w.alloc o) v T := h.keep ((Below.refl _ _).alloc (Nat.le_refl _) o)
theorem ItRow.len {w : World} {v : Value} {T : List It} (h : ItRow w v T) : ∃ ad cap, v = .slice ad T.length cap := by
  obtain ⟨B, h⟩ := h; exact owns_len h
theorem ItRow.at {w : World} {v : Value} {T : List It} (h : ItRow w v T) {k : Nat} {x : It} (hx : T[k]? = some x) :
    ∃ g cap, v = .slice (some ⟨g, 0, none⟩) T.length cap ∧ g < w.heap.size ∧ w.cell? ⟨g, k * 9, none⟩ = some (.int .i64 x.op) ∧ w.cell? ⟨g, k * 9 + 1, none⟩ = some (.string x.ln) ∧ w.cell? ⟨g, k * 9 + 2, none⟩ = some (.int .i64 x.lnum) ∧
      w.cell? ⟨g, k * 9 + 3, none⟩ = some (.string x.rn) ∧ w.cell? ⟨g, k * 9 + 4, none⟩ = some (.int .i64 x.rnum) ∧ w.cell? ⟨g, k * 9 + 5, none⟩ = some (.string x.name) ∧ w.cell? ⟨g, k * 9 + 6, none⟩ = some (.string x.user) ∧
      w.cell? ⟨g, k * 9 + 7, none⟩ = some (.int .i64 x.line) ∧ w.cell? ⟨g, k * 9 + 8, none⟩ = some (.int .i64 x.col) := by
  obtain ⟨B, h⟩ := h
  have hk := (List.getElem?_eq_some_iff.1 hx).1
  obtain ⟨g, cap, rfl, hg, hgs⟩ := owns_shape h (by omega)
  have c := fun j (hj : j < 9) => (World.ownsRow.cellAt h (k * 9 + j) (by omega)).trans (itFlat_get _ k j x hx hj)
  exact ⟨g, cap, rfl, hgs, c 0 (by omega), c 1 (by omega), c 2 (by omega), c 3 (by omega), c 4 (by omega), c 5 (by omega), c 6 (by omega), c 7 (by omega), c 8 (by omega)⟩

set_option maxHeartbeats 4000000 in
theorem exact_any {w : World} {u v : Value} {T : List It} (ha : ItRow w u T) (hb : ItRow w v T) (hT : T.length ≤ 5000) :
    Calls Tryz.prog 7 #[u, v] w fun e w' => e = .returned (.bool true) ∧ ∃ n, w' = w.drewN n := by
  obtain ⟨ad, cap, hu⟩ := ha.len
  obtain ⟨ad2, cap2, hv⟩ := hb.len
  have HA := Lib.hid ha
  have HB := Lib.hid hb
  subst hu
  subst hv
  clear ha hb
  go_enter Tryz.func7, Tryz.ntmps7
  go_wp2
  go_loopw [5] (fun i wr => ∃ k n : Nat, i = .int .i64 k ∧ k ≤ T.length ∧ wr = w.drewN n) (fun i _ => T.length - (intOf i).toNat)
  case atStart => exact ⟨0, 0, by go_num, by omega, rfl⟩
  case round =>
    obtain ⟨k, n, rfl, hk, rfl⟩ := hrel
    by_cases hlt : k < T.length
    · obtain ⟨x, hx⟩ : ∃ x, T[k]? = some x := ⟨_, List.getElem?_eq_getElem hlt⟩
      obtain ⟨g, c1, hg, hgl, a0, a1, a2, a3, a4, a5, a6, a7, a8⟩ := HA.out.at hx
      obtain ⟨g2, c2, hg2, hgl2, b0, b1, b2, b3, b4, b5, b6, b7, b8⟩ := HB.out.at hx
      simp only [Value.slice.injEq, true_and] at hg hg2
      obtain ⟨rfl, rfl⟩ := hg
      obtain ⟨rfl, rfl⟩ := hg2
      have hkz : (k : Int) < (T.length : Int) := by omega
      clear hx
      go_wp2
      go_quiet (fail)
      go_wp2
      go_roundw
      case rel => exact ⟨k + 1, _, by go_num, by omega, rfl⟩
      case measure => simp [intOf]; omega
    · have hkz : (T.length : Int) ≤ (k : Int) := by omega
      go_wp2
      go_ret
      exact ⟨rfl, n, rfl⟩

end Go.Proofs.YtignjhbajjephaaGreatDoor

namespace Go.Proofs.YtignjhbajjephaaGreatDoor
open Go.RowKit

theorem FtB.drewN {w : World} {b : Nat} {e l c : Int} (h : FtB w b e l c) (n : Nat) : FtB (w.drewN n) b e l c := h

end Go.Proofs.YtignjhbajjephaaGreatDoor

namespace Go.Proofs.YtignjhbajjephaaGreatDoor
open Go.RowKit

/-- "not a < 3 and open s" -/
def awakeT : ByteArray := ⟨#[110, 111, 116, 32, 97, 32, 60, 32, 51, 32, 97, 110, 100, 32, 111, 112, 101, 110, 32, 115]⟩
theorem awakeT_tok : tokRes awakeT = ⟨0, 0, 0, 0, [⟨2, ⟨#[110, 111, 116]⟩, 0, 1, 1⟩, ⟨1, ⟨#[97]⟩, 0, 1, 5⟩, ⟨4, ⟨#[60]⟩, 0, 1, 7⟩, ⟨3, ⟨#[51]⟩, 3, 1, 9⟩, ⟨2, ⟨#[97, 110, 100]⟩, 0, 1, 11⟩, ⟨2, ⟨#[111, 112, 101, 110]⟩, 0, 1, 15⟩, ⟨1, ⟨#[115]⟩, 0, 1, 20⟩, ⟨5, ⟨#[]⟩, 0, 1, 21⟩]⟩ := by kernel_rfl
theorem awakeT_whole : wholeP awakeT false = .ok [⟨3, ⟨#[97]⟩, 0, ⟨#[]⟩, 3, ⟨#[]⟩, ⟨#[]⟩, 1, 5⟩, ⟨15, ⟨#[]⟩, 0, ⟨#[]⟩, 0, ⟨#[]⟩, ⟨#[]⟩, 1, 1⟩, ⟨9, ⟨#[]⟩, 0, ⟨#[]⟩, 0, ⟨#[115]⟩, ⟨#[]⟩, 1, 20⟩, ⟨16, ⟨#[]⟩, 0, ⟨#[]⟩, 0, ⟨#[]⟩, ⟨#[]⟩, 1, 11⟩] 7 := by
  unfold wholeP
  rw [awakeT_tok]
  kernel_rfl

set_option maxHeartbeats 2000000 in
theorem awake05 (w : World) (hm : MaxCell w) :
    Calls Tryz.prog 4 #[] w fun e w' => e = .returned (.bool true) ∧ Below w.heap.size w w' := by
  have HW := Lib.hid (whole_any awakeT false w hm (by decide))
  have HA := Lib.hid awakeT_whole
  go_enter Tryz.func4, Tryz.ntmps4
  go_wp2_with fail
  refine HW.out.mono ?_
  rw [HA.out]
  rintro e w1 ⟨v, rfl, hown, hb1⟩
  simp only [List.length_cons, List.length_nil, Nat.zero_add, Nat.reduceAdd] at hown
  obtain ⟨g, cap, rfl, hg, hgs⟩ := owns_shape hown (by omega)
  have c0 := World.ownsRow.cellAt hown 0 (by omega)
  have c9 := World.ownsRow.cellAt hown 9 (by omega)
  have c23 := World.ownsRow.cellAt hown 23 (by omega)
  have c27 := World.ownsRow.cellAt hown 27 (by omega)
  have HB := Lib.hid hb1
  clear hown hb1
  simp only [itFlat, itCells, List.flatMap_cons, List.flatMap_nil, List.cons_append, List.nil_append, List.append_nil, List.getElem?_cons_zero, List.getElem?_cons_succ] at c0 c9 c23 c27
  go_wp2
  go_ret
  exact ⟨rfl, HB.out.alloc HB.out.size _⟩

end Go.Proofs.YtignjhbajjephaaGreatDoor

namespace Go.Proofs.YtignjhbajjephaaGreatDoor
open Go.RowKit

def PR.items : PR → List It
  | .ok o _ => o
  | .bad _ _ _ => []
def PR.fe : PR → Int
  | .ok _ _ => 0
  | .bad e _ _ => e
def PR.fl : PR → Int
  | .ok _ _ => 0
  | .bad _ l _ => l
def PR.fc : PR → Int
  | .ok _ _ => 0
  | .bad _ _ c => c

theorem WholePost.all {w w' : World} {p : PR} {e : Ending} (h : WholePost w p e w') :
    ∃ v, e = .returned (.tuple #[v, .agg #[.int .i64 p.fe, .int .i64 p.fl, .int .i64 p.fc]]) ∧ w'.ownsRow w.heap.size 36 9 v p.items.length (itFlat p.items) ∧ Below w.heap.size w w' := by
  cases p with
  | ok o a => exact h
  | bad er l c => exact ⟨_, h.1, World.ownsRow_nil _ _ _ _, h.2⟩
theorem wholeP_short (s : ByteArray) (prop : Bool) : (wholeP s prop).items.length ≤ 64 := by
  unfold wholeP
  split
  · simp [PR.items]
  · unfold readP
    cases (bothP (tokRes s).T prop 25).2 0 with
    | bad e l c => simp [PR.items]
    | ok o a =>
      dsimp only
      by_cases h : 64 < o.length
      · rw [if_pos h]; simp [PR.items]
      · rw [if_neg h]
        dsimp only
        split
        · simp only [PR.items]; omega
        · simp [PR.items]

set_option maxRecDepth 100000 in
set_option maxHeartbeats 4000000 in
theorem lawCondReads_any (s : ByteArray) (prop : Bool) (w : World) (hm : MaxCell w) (hs : s.size ≤ 140737488351232) :
    Calls Tryz.prog 3 #[.string s, .bool prop] w fun e w' => e = .returned (.bool true) ∧ Below w.heap.size w w' := by
  have HM := Lib.hid hm
  have HZ : Hid (0 < w.heap.size) := by obtain ⟨m, hm⟩ := hm; exact World.block_lt_of_cell? w _ hm
  by_cases hbig : 3000 < s.size
  · have hbz : (3000 : Int) < s.size := by omega
    clear hm
    go_enter Tryz.func3, Tryz.ntmps3
    go_wp2_with fail
    refine (awake05 _ HM.out).mono ?_
    rintro e w2 ⟨rfl, hb2⟩
    go_wp2
    go_ret
    exact ⟨rfl, hb2⟩
  · have hbz : (s.size : Int) ≤ 3000 := by omega
    have hsh := wholeP_short s prop
    have HRD := Lib.hid (whole_any s prop w hm (by omega))
    have HRR := Lib.hid (fun (W : World) => rwhole_any s prop W (by omega))
    obtain ⟨p, hp⟩ : ∃ p, wholeP s prop = p := ⟨_, rfl⟩
    rw [hp] at HRD HRR hsh
    obtain ⟨O, hO⟩ : ∃ o, p.items = o := ⟨_, rfl⟩
    obtain ⟨a, ha⟩ : ∃ o, p.fe = o := ⟨_, rfl⟩
    obtain ⟨b, hb⟩ : ∃ o, p.fl = o := ⟨_, rfl⟩
    obtain ⟨c, hc⟩ : ∃ o, p.fc = o := ⟨_, rfl⟩
    rw [hO] at hsh
    have HP := Lib.hid (And.intro hO (And.intro ha (And.intro hb hc)))
    clear hm hp hO ha hb hc
    go_enter Tryz.func3, Tryz.ntmps3
    go_wp2_with fail
    refine HRD.out.mono ?_
    intro e w1 hr
    obtain ⟨v, rfl, hown, hb1⟩ := hr.all
    rw [HP.out.1] at hown
    rw [HP.out.2.1, HP.out.2.2.1, HP.out.2.2.2]
    obtain ⟨ad1, cap1, hv⟩ := owns_len hown
    subst hv
    have HR1 := Lib.hid (ItRow.alloc ⟨_, hown⟩ (.cells #[.int .i64 a, .int .i64 b, .int .i64 c] 28))
    have HB1 := Lib.hid (hb1.alloc hb1.size (.cells #[.int .i64 a, .int .i64 b, .int .i64 c] 28))
    have HF1 := Lib.hid (show FtB (w1.alloc (.cells #[.int .i64 a, .int .i64 b, .int .i64 c] 28)) w1.heap.size a b c from heap_alloc_new w1 _)
    clear hown hb1 hr
    go_wp2_with fail
    refine (HRR.out _).mono ?_
    intro e w2 hr
    obtain ⟨v2, rfl, hown, hb2⟩ := hr.all
    rw [HP.out.1] at hown
    rw [HP.out.2.1, HP.out.2.2.1, HP.out.2.2.2]
    obtain ⟨ad2, cap2, hv⟩ := owns_len hown
    subst hv
    have HR2 := Lib.hid (ItRow.alloc ⟨_, hown⟩ (.cells #[.int .i64 a, .int .i64 b, .int .i64 c] 28))
    have HR3 := Lib.hid ((HR1.out.keep hb2).alloc (.cells #[.int .i64 a, .int .i64 b, .int .i64 c] 28))
    have HB2 := Lib.hid ((HB1.out.trans (hb2.mono HB1.out.size)).alloc (by have := HB1.out.size; have := hb2.size; omega) (.cells #[.int .i64 a, .int .i64 b, .int .i64 c] 28))
    have hf1 := (HF1.out.below hb2)
    have hfl := hf1.lt
    obtain ⟨a0, a1, a2⟩ := hf1.facts
    clear hown hb2 hf1 hr
    go_wp2_with fail
    refine (exact_any HR3.out HR2.out (by omega)).mono ?_
    rintro e w3 ⟨rfl, n, rfl⟩
    go_wp2_with fail
    refine (awake05 _ ((HM.out.below HB2.out HZ.out).drewN n)).mono ?_
    rintro e w4 ⟨rfl, hb4⟩
    have HB4 := Lib.hid ((below_drewN HB2.out n).trans (hb4.mono (below_drewN HB2.out n).size))
    clear hb4
    go_wp2
    go_ret
    exact ⟨rfl, HB4.out⟩

end Go.Proofs.YtignjhbajjephaaGreatDoor
