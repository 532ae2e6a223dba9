/- Contract of cond.Whole. A token in a block of its own; what the document's one answers. -/
import Derived.Test.YtignjhbajjephaaGreatDoorCr10
import Derived.Test.YtignjhbajjephaaGreatDoorCr25
import Derived.Test.YtignjhbajjephaaGreatDoorCr40

namespace Go.Proofs.YtignjhbajjephaaGreatDoor
open Go.RowKit

theorem runT_cap (s : ByteArray) (L : List Rn) : ∀ (k i : Nat) (T : List Tk), T.length ≤ 4096 → (runT s L k i T).er = 0 → (runT s L k i T).T.length ≤ 4096
  | 0, i, T, hT, _ => hT
  | k + 1, i, T, hT, he => by
    rw [runT] at he ⊢
    split
    · rename_i hi
      rw [if_pos hi] at he
      split
      · rename_i h; rw [if_pos h] at he; exact absurd he h
      · rename_i h
        rw [if_neg h] at he
        exact runT_cap s L k _ _ (oneT_on s L i T hi hT (by omega)).2 he
    · exact hT

/-- tokens of a text that is right: the last one is the end -/
theorem tokRes_end (s : ByteArray) (h : (tokRes s).er = 0) : ∃ X, (tokRes s).T = X ++ [endTk s] ∧ X.length ≤ 4096 := by
  unfold tokRes at h ⊢
  split
  · rename_i h1; rw [if_pos h1] at h; simp at h
  · rename_i h1
    rw [if_neg h1] at h
    split
    · rename_i h2; rw [if_pos h2] at h; exact absurd h h2
    · rename_i h2
      exact ⟨_, rfl, runT_cap _ _ _ _ _ (by simp) (by omega)⟩

/-- what Whole says -/
def wholeP (s : ByteArray) (prop : Bool) : PR :=
  if (tokRes s).er ≠ 0 then .bad (tokRes s).er (tokRes s).line (tokRes s).col
  else match readP (tokRes s).T prop 0 with
    | .bad e l c => .bad e l c
    | .ok o a => if (tkAt (tokRes s).T a).kind = 5 then .ok o a else .bad 4 (tkAt (tokRes s).T a).line (tkAt (tokRes s).T a).col

def WholePost (w : World) (p : PR) (e : Ending) (w' : World) : Prop :=
  match p with
  | .ok o _ => ∃ v, e = .returned (.tuple #[v, .agg #[.int .i64 0, .int .i64 0, .int .i64 0]]) ∧ w'.ownsRow w.heap.size 36 9 v o.length (itFlat o) ∧ Below w.heap.size w w'
  | .bad er l c => e = .returned (.tuple #[.slice none 0 0, .agg #[.int .i64 er, .int .i64 l, .int .i64 c]]) ∧ Below w.heap.size w w'

theorem tkIn_owns {w : World} {base B : Nat} {v : Value} {T : List Tk} (h : w.ownsRow base 43 5 v T.length (tkFlat T)) (hB : w.heap.size ≤ B) (hT : T.length ≤ 1000000) : TkIn w B v T := by
  rcases h.2 with ⟨rfl, h0⟩ | ⟨g, cap, cur, rfl, hb, hg, _⟩
  · exact ⟨none, 0, by rw [h0], hT, .inl (List.length_eq_zero_iff.1 h0)⟩
  · have hlt := (Array.getElem?_eq_some_iff.1 hg).1
    refine ⟨_, cap, rfl, hT, .inr ⟨g, 0, rfl, by omega, hlt, fun k x hx => ?_⟩⟩
    have hk := (List.getElem?_eq_some_iff.1 hx).1
    have cell : ∀ j, j < 5 → w.cell? ⟨g, 0 + k * 5 + j, none⟩ = (tkCells x)[j]? := fun j hj => by
      rw [Nat.zero_add, World.ownsRow.cellAt h (k * 5 + j) (by omega), tkFlat_get T k j x hx hj]
    exact ⟨cell 0 (by omega), cell 1 (by omega), cell 2 (by omega), cell 3 (by omega), cell 4 (by omega)⟩

theorem readP_in {T : List Tk} {prop : Bool} {i : Int} {o : List It} {a : Int} (h : readP T prop i = .ok o a) : 0 ≤ i ∧ i < a ∧ a ≤ T.length ∧ (tkAt T (a - 1)).kind ≠ 5 := by
  unfold readP at h
  cases hp : (bothP T prop 25).2 i with
  | bad e l c => rw [hp] at h; cases h
  | ok o1 a1 =>
    rw [hp] at h
    dsimp only at h
    split at h
    · cases h
    · simp only [PR.ok.injEq] at h
      obtain ⟨rfl, rfl⟩ := h
      have g := (both_good T prop 25).2 _ _ _ hp
      exact ⟨g.1, g.2.1, g.2.2.1, (both_good2 T prop 25).2 _ _ _ hp⟩

theorem readP_no {T : List Tk} {prop : Bool} {i : Int} {e l c : Int} (h : readP T prop i = .bad e l c) : e ≠ 0 := by
  unfold readP at h
  cases hp : (bothP T prop 25).2 i with
  | bad e1 l1 c1 => rw [hp] at h; simp only [PR.bad.injEq] at h; have := (both_no T prop 25).2 _ _ _ _ hp; omega
  | ok o1 a1 =>
    rw [hp] at h
    dsimp only at h
    split at h
    · simp only [PR.bad.injEq] at h; omega
    · cases h

set_option maxRecDepth 100000 in
set_option maxHeartbeats 4000000 in
theorem whole_any (s : ByteArray) (prop : Bool) (w : World) (hm : MaxCell w) (hs : s.size ≤ 4294967200) :
    Calls Tryz.prog 5 #[.string s, .bool prop] w (WholePost w (wholeP s prop)) := by
  have HZ : 0 < w.heap.size := by obtain ⟨m, hm⟩ := hm; exact World.block_lt_of_cell? w _ hm
  have hm0 := hm.below ((Below.refl w.heap.size w).alloc (Nat.le_refl _) (.cells #[.int .i64 0, .int .i64 0, .int .i64 0] 28)) HZ
  have HTK := Lib.hid (tokens_any s _ hm0 hs)
  have HF0 : FtB (w.alloc (.cells #[.int .i64 0, .int .i64 0, .int .i64 0] 28)) w.heap.size 0 0 0 := heap_alloc_new w _
  have hb0 : Below w.heap.size w (w.alloc (.cells #[.int .i64 0, .int .i64 0, .int .i64 0] 28)) := (Below.refl _ w).alloc (Nat.le_refl _) _
  have hsz0 : (w.alloc (.cells #[.int .i64 0, .int .i64 0, .int .i64 0] 28)).heap.size = w.heap.size + 1 := by simp
  obtain ⟨er, her⟩ : ∃ e, (tokRes s).er = e := ⟨_, rfl⟩
  obtain ⟨tl, htl⟩ : ∃ e, (tokRes s).line = e := ⟨_, rfl⟩
  obtain ⟨tc, htc⟩ : ∃ e, (tokRes s).col = e := ⟨_, rfl⟩
  have HER := Lib.hid her; have HTL := Lib.hid htl; have HTC := Lib.hid htc
  have HF0 := Lib.hid HF0; have HB0 := Lib.hid hb0; have HS0 := Lib.hid hsz0
  clear hm hm0 hb0 hsz0 htl htc
  by_cases h0 : er = 0
  · subst h0
    obtain ⟨X, hX, hXl⟩ := tokRes_end s her
    obtain ⟨T, hT⟩ : ∃ T, (tokRes s).T = T := ⟨_, rfl⟩
    have HT := Lib.hid hT
    have hTl : T.length ≤ 1000000 := by rw [← hT, hX]; simp; omega
    have hEnd : ∀ a : Int, (tkAt T (a - 1)).kind ≠ 5 → 0 < a → a ≤ T.length → a < T.length := by
      intro a h1 h2 h3
      refine Classical.byContradiction fun h4 => h1 ?_
      have e : a - 1 = ((X.length : Nat) : Int) := by rw [← hT, hX] at h3 h4; simp at h3 h4; omega
      have : T[X.length]? = some (endTk s) := by rw [← hT, hX]; simp
      rw [e, tkAt_some this]; rfl
    have HEND := Lib.hid hEnd
    have HTP := Lib.hid (show 0 < T.length by rw [← hT, hX]; simp)
    have HTL6 := Lib.hid hTl
    have HU : Hid (wholeP s prop = match readP T prop 0 with
      | .bad e l c => .bad e l c
      | .ok o a => if (tkAt T a).kind = 5 then .ok o a else .bad 4 (tkAt T a).line (tkAt T a).col) := by unfold Hid wholeP; rw [if_neg (by omega), hT]
    clear hX hXl hEnd hT her
    cases hp : readP T prop 0 with
    | bad e l c =>
      have hne := readP_no hp
      have hneb : (e != 0) = true := by simpa using hne
      have HP := Lib.hid hp
      unfold Hid at HU
      rw [hp] at HU
      replace HU := Lib.hid HU
      clear hp hne
      go_enter Tryz.func5, Tryz.ntmps5
      go_wp2_with fail
      refine HTK.out.mono ?_
      rintro en w1 ⟨v, rfl, hown, hb1⟩
      rw [HT.out] at hown
      rw [HER.out, faultV_ok]
      obtain ⟨g, cap, hv, hg, hgs⟩ := owns_shape hown HTP.out
      rw [HS0.out] at hg
      subst hv
      have hf1 := (HF0.out.below hb1).alloc (.cells #[.int .i64 0, .int .i64 0, .int .i64 0] 28)
      have hf7 : FtB (w1.alloc (.cells #[.int .i64 0, .int .i64 0, .int .i64 0] 28)) w1.heap.size 0 0 0 := heap_alloc_new w1 _
      have hal := (Below.refl w1.heap.size w1).alloc (Nat.le_refl _) (.cells #[.int .i64 0, .int .i64 0, .int .i64 0] 28)
      have HOW := Lib.hid (hown.alloc (.cells #[.int .i64 0, .int .i64 0, .int .i64 0] 28))
      have HBB := Lib.hid ((HB0.out.trans (hb1.mono HB0.out.size)).trans (hal.mono (Nat.le_trans HB0.out.size hb1.size)))
      have hlt := (HF0.out.below hb1).lt
      have F1 := Lib.hid hf1; have F7 := Lib.hid hf7
      have hs1 := hb1.size
      rw [HS0.out] at hs1
      clear hown hb1 hf1 hf7 hal
      go_wp2_with fail
      refine (read_any (tkIn_owns HOW.out (Nat.le_refl _) HTL6.out) 0 prop (by omega) (by omega)).mono ?_
      rw [HP.out]
      rintro en w2 ⟨rfl, hb2⟩
      have f5 := F1.out.below hb2
      have f7 := F7.out.below hb2
      obtain ⟨q0, q1, q2⟩ := f5.facts
      obtain ⟨z0, z1, z2⟩ := f5.free
      obtain ⟨p0, p1, p2⟩ := f7.facts
      obtain ⟨y0, y1, y2⟩ := f7.free
      have hl5 := f5.lt
      have hl7 := f7.lt
      have HB2 := Lib.hid (HBB.out.trans (hb2.mono HBB.out.size))
      clear f5 f7 hb2
      go_wp2
      go_region
      go_wp2
      refine bodyPost_ret (v := .tuple #[.slice none 0 0, .agg #[.int .i64 e, .int .i64 l, .int .i64 c]]) (by simp [results, Tryz.results5, go_sem, q0, q1, q2]) rfl ?_
      rw [HU.out]
      exact ⟨rfl, (below_fault (below_fault HB2.out (by omega) _ _ _) (Nat.le_refl _) _ _ _).drew⟩
    | ok o a =>
      have hin := readP_in hp
      have haT := HEND.out a hin.2.2.2 (by omega) hin.2.2.1
      obtain ⟨ka, hka⟩ : ∃ ka : Nat, a = ka := ⟨a.toNat, by omega⟩
      subst hka
      have hkT : ka < T.length := by omega
      obtain ⟨y, hy⟩ : ∃ y, T[ka]? = some y := ⟨_, List.getElem?_eq_getElem hkT⟩
      have HY := Lib.hid hy
      have HYA := Lib.hid (tkAt_some hy)
      have HP := Lib.hid hp
      unfold Hid at HU
      rw [hp] at HU
      dsimp only at HU
      rw [HYA.out] at HU
      replace HU := Lib.hid HU
      have hkz : (ka : Int) < (T.length : Int) := by omega
      have hkz0 : (0 : Int) ≤ (ka : Int) := by omega
      clear hp hin haT hy
      by_cases h5 : y.kind = 5
      · have h5b : (y.kind != 5) = false := by simp [h5]
        have HU : Hid (wholeP s prop = .ok o ka) := by unfold Hid; rw [HU.out, if_pos h5]
        clear h5
        go_enter Tryz.func5, Tryz.ntmps5
        go_wp2_with fail
        refine HTK.out.mono ?_
        rintro en w1 ⟨v, rfl, hown, hb1⟩
        rw [HT.out] at hown
        rw [HER.out, faultV_ok]
        obtain ⟨g, cap, hv, hg, hgs⟩ := owns_shape hown HTP.out
        rw [HS0.out] at hg
        subst hv
        have hf1 := (HF0.out.below hb1).alloc (.cells #[.int .i64 0, .int .i64 0, .int .i64 0] 28)
        have hf7 : FtB (w1.alloc (.cells #[.int .i64 0, .int .i64 0, .int .i64 0] 28)) w1.heap.size 0 0 0 := heap_alloc_new w1 _
        have hal := (Below.refl w1.heap.size w1).alloc (Nat.le_refl _) (.cells #[.int .i64 0, .int .i64 0, .int .i64 0] 28)
        have HOW := Lib.hid (hown.alloc (.cells #[.int .i64 0, .int .i64 0, .int .i64 0] 28))
        have HBB := Lib.hid ((HB0.out.trans (hb1.mono HB0.out.size)).trans (hal.mono (Nat.le_trans HB0.out.size hb1.size)))
        have hlt := (HF0.out.below hb1).lt
        have F1 := Lib.hid hf1; have F7 := Lib.hid hf7
        have hs1 := hb1.size
        rw [HS0.out] at hs1
        clear hown hb1 hf1 hf7 hal
        go_wp2_with fail
        refine (read_any (tkIn_owns HOW.out (Nat.le_refl _) HTL6.out) 0 prop (by omega) (by omega)).mono ?_
        rw [HP.out]
        rintro en w2 ⟨v2, rfl, hown2, hb2⟩
        obtain ⟨ad2, cap2, rfl⟩ := owns_len hown2
        have f5 := F1.out.below hb2
        have f7 := F7.out.below hb2
        obtain ⟨q0, q1, q2⟩ := f5.facts
        obtain ⟨z0, z1, z2⟩ := f5.free
        obtain ⟨p0, p1, p2⟩ := f7.facts
        obtain ⟨y0, y1, y2⟩ := f7.free
        have hl5 := f5.lt
        have hl7 := f7.lt
        have ho2 := owns_below HOW.out hb2
        have hgl : g < w2.heap.size := (ho2.lt g rfl).2
        have cell : ∀ j, j < 5 → w2.cell? ⟨g, ka * 5 + j, none⟩ = (tkCells y)[j]? := fun j hj => by
          rw [World.ownsRow.cellAt ho2 (ka * 5 + j) (by omega), tkFlat_get T ka j y HY.out hj]
        have d0 := cell 0 (by omega); have d1 := cell 1 (by omega); have d2 := cell 2 (by omega); have d3 := cell 3 (by omega); have d4 := cell 4 (by omega)
        simp only [tkCells, List.getElem?_cons_zero, List.getElem?_cons_succ, Nat.add_zero] at d0 d1 d2 d3 d4
        have hg1 : g ≠ w.heap.size := by have := hg; omega
        have hg7 : g ≠ w1.heap.size := by have := hgs; omega
        have HB2 := Lib.hid (HBB.out.trans (hb2.mono HBB.out.size))
        have HO2 := Lib.hid hown2
        have F52 := Lib.hid f5; have F72 := Lib.hid f7
        clear f5 f7 hb2 ho2 cell hown2
        have hne57 : w.heap.size ≠ w1.heap.size := by omega
        have OWN := Lib.hid ((FtB.row (F52.out.over hne57 (.int .i64 0) (.int .i64 0) (.int .i64 0)) (F72.out.row HO2.out (by decide) 0 0 0) (by decide) 0 0 0).alloc (.cells #[.int .i64 y.kind, .string y.text, .int .i64 y.num, .int .i64 y.line, .int .i64 y.col] 43))
        have BEL := Lib.hid ((below_fault (below_fault HB2.out (show w.heap.size ≤ w1.heap.size by omega) (.int .i64 0) (.int .i64 0) (.int .i64 0)) (Nat.le_refl _) (.int .i64 0) (.int .i64 0) (.int .i64 0)).alloc (by simp; omega) (.cells #[.int .i64 y.kind, .string y.text, .int .i64 y.num, .int .i64 y.line, .int .i64 y.col] 43))
        have HE := Lib.hid (((F52.out.over hne57 (.int .i64 0) (.int .i64 0) (.int .i64 0)).stored 0 0 0).alloc (.cells #[.int .i64 y.kind, .string y.text, .int .i64 y.num, .int .i64 y.line, .int .i64 y.col] 43)).facts
        go_wp2
        obtain ⟨e0, e1, e2⟩ := HE.out
        refine bodyPost_ret (v := .tuple #[.slice ad2 o.length cap2, .agg #[.int .i64 0, .int .i64 0, .int .i64 0]]) (by simp [results, Tryz.results5, go_sem, e0, e1, e2]) rfl ?_
        rw [HU.out]
        exact ⟨_, rfl, owns_mono OWN.out (by simp; omega), BEL.out⟩
      · have h5b : (y.kind != 5) = true := by simpa using h5
        have HU : Hid (wholeP s prop = .bad 4 y.line y.col) := by unfold Hid; rw [HU.out, if_neg h5]
        clear h5
        go_enter Tryz.func5, Tryz.ntmps5
        go_wp2_with fail
        refine HTK.out.mono ?_
        rintro en w1 ⟨v, rfl, hown, hb1⟩
        rw [HT.out] at hown
        rw [HER.out, faultV_ok]
        obtain ⟨g, cap, hv, hg, hgs⟩ := owns_shape hown HTP.out
        rw [HS0.out] at hg
        subst hv
        have hf1 := (HF0.out.below hb1).alloc (.cells #[.int .i64 0, .int .i64 0, .int .i64 0] 28)
        have hf7 : FtB (w1.alloc (.cells #[.int .i64 0, .int .i64 0, .int .i64 0] 28)) w1.heap.size 0 0 0 := heap_alloc_new w1 _
        have hal := (Below.refl w1.heap.size w1).alloc (Nat.le_refl _) (.cells #[.int .i64 0, .int .i64 0, .int .i64 0] 28)
        have HOW := Lib.hid (hown.alloc (.cells #[.int .i64 0, .int .i64 0, .int .i64 0] 28))
        have HBB := Lib.hid ((HB0.out.trans (hb1.mono HB0.out.size)).trans (hal.mono (Nat.le_trans HB0.out.size hb1.size)))
        have hlt := (HF0.out.below hb1).lt
        have F1 := Lib.hid hf1; have F7 := Lib.hid hf7
        have hs1 := hb1.size
        rw [HS0.out] at hs1
        clear hown hb1 hf1 hf7 hal
        go_wp2_with fail
        refine (read_any (tkIn_owns HOW.out (Nat.le_refl _) HTL6.out) 0 prop (by omega) (by omega)).mono ?_
        rw [HP.out]
        rintro en w2 ⟨v2, rfl, hown2, hb2⟩
        obtain ⟨ad2, cap2, rfl⟩ := owns_len hown2
        have f5 := F1.out.below hb2
        have f7 := F7.out.below hb2
        obtain ⟨q0, q1, q2⟩ := f5.facts
        obtain ⟨z0, z1, z2⟩ := f5.free
        obtain ⟨p0, p1, p2⟩ := f7.facts
        obtain ⟨y0, y1, y2⟩ := f7.free
        have hl5 := f5.lt
        have hl7 := f7.lt
        have ho2 := owns_below HOW.out hb2
        have hgl : g < w2.heap.size := (ho2.lt g rfl).2
        have cell : ∀ j, j < 5 → w2.cell? ⟨g, ka * 5 + j, none⟩ = (tkCells y)[j]? := fun j hj => by
          rw [World.ownsRow.cellAt ho2 (ka * 5 + j) (by omega), tkFlat_get T ka j y HY.out hj]
        have d0 := cell 0 (by omega); have d1 := cell 1 (by omega); have d2 := cell 2 (by omega); have d3 := cell 3 (by omega); have d4 := cell 4 (by omega)
        simp only [tkCells, List.getElem?_cons_zero, List.getElem?_cons_succ, Nat.add_zero] at d0 d1 d2 d3 d4
        have hg1 : g ≠ w.heap.size := by have := hg; omega
        have hg7 : g ≠ w1.heap.size := by have := hgs; omega
        have HB2 := Lib.hid (HBB.out.trans (hb2.mono HBB.out.size))
        have HO2 := Lib.hid hown2
        have F52 := Lib.hid f5; have F72 := Lib.hid f7
        clear f5 f7 hb2 ho2 cell hown2
        have hne57 : w.heap.size ≠ w1.heap.size := by omega
        have OWN := Lib.hid ((FtB.row (F52.out.over hne57 (.int .i64 0) (.int .i64 0) (.int .i64 0)) (F72.out.row HO2.out (by decide) 0 0 0) (by decide) 4 y.line y.col).alloc (.cells #[.int .i64 y.kind, .string y.text, .int .i64 y.num, .int .i64 y.line, .int .i64 y.col] 43))
        have BEL := Lib.hid ((below_fault (below_fault HB2.out (show w.heap.size ≤ w1.heap.size by omega) (.int .i64 0) (.int .i64 0) (.int .i64 0)) (Nat.le_refl _) (.int .i64 4) (.int .i64 y.line) (.int .i64 y.col)).alloc (by simp; omega) (.cells #[.int .i64 y.kind, .string y.text, .int .i64 y.num, .int .i64 y.line, .int .i64 y.col] 43))
        have HE := Lib.hid (((F52.out.over hne57 (.int .i64 0) (.int .i64 0) (.int .i64 0)).stored 4 y.line y.col).alloc (.cells #[.int .i64 y.kind, .string y.text, .int .i64 y.num, .int .i64 y.line, .int .i64 y.col] 43)).facts
        go_wp2
        go_region
        go_wp2
        obtain ⟨e0, e1, e2⟩ := HE.out
        refine bodyPost_ret (v := .tuple #[.slice none 0 0, .agg #[.int .i64 4, .int .i64 y.line, .int .i64 y.col]]) (by simp [results, Tryz.results5, go_sem, e0, e1, e2]) rfl ?_
        rw [HU.out]
        exact ⟨rfl, BEL.out.drew⟩
  · have HE0 := Lib.hid h0
    have HU : Hid (wholeP s prop = .bad er tl tc) := by unfold Hid wholeP; rw [HER.out, if_pos h0, HTL.out, HTC.out]
    have hne : (er != 0) = true := by simpa using h0
    clear h0 her
    go_enter Tryz.func5, Tryz.ntmps5
    go_wp2_with fail
    refine HTK.out.mono ?_
    rintro en w1 ⟨v, rfl, hown, hb1⟩
    rw [HER.out, HTL.out, HTC.out, faultV_no HE0.out]
    have hf1 := HF0.out.below hb1
    obtain ⟨q0, q1, q2⟩ := hf1.facts
    obtain ⟨z0, z1, z2⟩ := hf1.free
    have hlt1 := hf1.lt
    have HBB := Lib.hid (HB0.out.trans (hb1.mono HB0.out.size))
    have HE := Lib.hid ((hf1.stored er tl tc).alloc (.cells #[.int .i64 er, .int .i64 tl, .int .i64 tc] 28)).facts
    clear hown hb1 hf1
    go_wp2
    go_region
    go_wp2
    obtain ⟨e0, e1, e2⟩ := HE.out
    refine bodyPost_ret (v := .tuple #[.slice none 0 0, .agg #[.int .i64 er, .int .i64 tl, .int .i64 tc]]) (by simp [results, Tryz.results5, go_sem, e0, e1, e2]) rfl ?_
    rw [HU.out]
    exact ⟨rfl, ((below_fault HBB.out (Nat.le_refl _) _ _ _).alloc (by have := HBB.out.size; simp; omega) _).drew⟩

end Go.Proofs.YtignjhbajjephaaGreatDoor

namespace Go.Proofs.YtignjhbajjephaaGreatDoor
open Go.RowKit

/-- a token in a block of its own -/
def TkAt (w : World) (b : Nat) (x : Tk) : Prop := w.heap[b]? = some (.cells #[.int .i64 x.kind, .string x.text, .int .i64 x.num, .int .i64 x.line, .int .i64 x.col] 43 (0, 0))
theorem TkAt.facts {w : World} {b : Nat} {x : Tk} (h : TkAt w b x) :
    w.cell? ⟨b, 0, none⟩ = some (.int .i64 x.kind) ∧ w.cell? ⟨b, 1, none⟩ = some (.string x.text) ∧ w.cell? ⟨b, 2, none⟩ = some (.int .i64 x.num) ∧ w.cell? ⟨b, 3, none⟩ = some (.int .i64 x.line) ∧ w.cell? ⟨b, 4, none⟩ = some (.int .i64 x.col) := by
  unfold TkAt at h
  refine ⟨?_, ?_, ?_, ?_, ?_⟩ <;> simp [World.cell?, h]
theorem TkAt.free {w : World} {b : Nat} {x : Tk} (h : TkAt w b x) :
    w.frozen? ⟨b, 0, none⟩ = false ∧ w.frozen? ⟨b, 1, none⟩ = false ∧ w.frozen? ⟨b, 2, none⟩ = false ∧ w.frozen? ⟨b, 3, none⟩ = false ∧ w.frozen? ⟨b, 4, none⟩ = false := by
  unfold TkAt at h
  refine ⟨?_, ?_, ?_, ?_, ?_⟩ <;> simp [World.frozen?, h]
theorem TkAt.setKind {w : World} {b : Nat} {x : Tk} (h : TkAt w b x) (k : Int) : TkAt (w.setCell ⟨b, 0, none⟩ (.int .i64 k)) b { x with kind := k } := heap_setCell_same w b 0 _ _ (.int .i64 k) h
theorem TkAt.setText {w : World} {b : Nat} {x : Tk} (h : TkAt w b x) (t : ByteArray) : TkAt (w.setCell ⟨b, 1, none⟩ (.string t)) b { x with text := t } := heap_setCell_same w b 1 _ _ (.string t) h
theorem TkAt.setNum {w : World} {b : Nat} {x : Tk} (h : TkAt w b x) (k : Int) : TkAt (w.setCell ⟨b, 2, none⟩ (.int .i64 k)) b { x with num := k } := heap_setCell_same w b 2 _ _ (.int .i64 k) h
theorem TkAt.setOther {w : World} {b g j : Nat} {x : Tk} (h : TkAt w b x) (hne : g ≠ b) (u : Value) : TkAt (w.setCell ⟨g, j, none⟩ u) b x := (Below.heap_setCell _ _ _ _ (by show b ≠ g; omega)).trans h
theorem TkAt.lt {w : World} {b : Nat} {x : Tk} (h : TkAt w b x) : b < w.heap.size := (Array.getElem?_eq_some_iff.1 h).1
theorem TkAt.below {w w' : World} {b B : Nat} {x : Tk} (h : TkAt w b x) (hb : Below B w w') (hB : b < B) : TkAt w' b x := (hb.block b hB).trans h
theorem TkAt.alloc {w : World} {b : Nat} {x : Tk} (h : TkAt w b x) (o : Obj) : TkAt (w.alloc o) b x := (Below.heap_alloc _ _ _ h.lt).trans h
theorem TkAt.drewN {w : World} {b : Nat} {x : Tk} (h : TkAt w b x) (n : Nat) : TkAt (w.drewN n) b x := h
theorem TkAt.drew {w : World} {b : Nat} {x : Tk} (h : TkAt w b x) : TkAt w.drew b x := h
theorem TkAt.stored {w : World} {b : Nat} {x : Tk} (h : TkAt w b x) (y : Tk) :
    TkAt (((((w.setCell ⟨b, 0, none⟩ (.int .i64 y.kind)).setCell ⟨b, 1, none⟩ (.string y.text)).setCell ⟨b, 2, none⟩ (.int .i64 y.num)).setCell ⟨b, 3, none⟩ (.int .i64 y.line)).setCell ⟨b, 4, none⟩ (.int .i64 y.col)) b y := by
  have h1 := heap_setCell_same w b 0 _ _ (.int .i64 y.kind) h
  have h2 := heap_setCell_same _ b 1 _ _ (.string y.text) h1
  have h3 := heap_setCell_same _ b 2 _ _ (.int .i64 y.num) h2
  have h4 := heap_setCell_same _ b 3 _ _ (.int .i64 y.line) h3
  exact heap_setCell_same _ b 4 _ _ (.int .i64 y.col) h4
theorem TkAt.new (w : World) (k n l c : Int) (t : ByteArray) : TkAt (w.alloc (.cells #[.int .i64 k, .string t, .int .i64 n, .int .i64 l, .int .i64 c] 43)) w.heap.size ⟨k, t, n, l, c⟩ := heap_alloc_new w _
theorem below_stored {w0 w : World} {B b : Nat} (h : Below B w0 w) (hb : B ≤ b) (y : Tk) : Below B w0 (((((w.setCell ⟨b, 0, none⟩ (.int .i64 y.kind)).setCell ⟨b, 1, none⟩ (.string y.text)).setCell ⟨b, 2, none⟩ (.int .i64 y.num)).setCell ⟨b, 3, none⟩ (.int .i64 y.line)).setCell ⟨b, 4, none⟩ (.int .i64 y.col)) :=
  ((((h.setCell (p := ⟨b, 0, none⟩) hb _).setCell (p := ⟨b, 1, none⟩) hb _).setCell (p := ⟨b, 2, none⟩) hb _).setCell (p := ⟨b, 3, none⟩) hb _).setCell (p := ⟨b, 4, none⟩) hb _

/-- what the document's one answers -/
def tkV (x : Tk) : Value := .agg #[.int .i64 x.kind, .string x.text, .int .i64 x.num, .int .i64 x.line, .int .i64 x.col]
def ROne (w : World) (x : Tk) (j : Nat) (er : Int) (e : Ending) (w' : World) : Prop := e = .returned (.tuple #[tkV x, .int .i64 j, .int .i64 er]) ∧ Below w.heap.size w w'

/-- the reference's runes' own cells -/
theorem RR.rune {w : World} {v : Value} {L : List Rn} (h : RR w v L) {j : Nat} {x : Rn} (hj : L[j]? = some x) :
    ∃ g cap, v = .slice (some ⟨g, 0, none⟩) L.length cap ∧ w.cell? ⟨g, j * 5, none⟩ = some (.int .i64 x.r) ∧ w.cell? ⟨g, j * 5 + 1, none⟩ = some (.int .i64 x.fr) ∧ w.cell? ⟨g, j * 5 + 2, none⟩ = some (.int .i64 x.to) ∧
      w.cell? ⟨g, j * 5 + 3, none⟩ = some (.int .i64 x.line) ∧ w.cell? ⟨g, j * 5 + 4, none⟩ = some (.int .i64 x.col) := by
  obtain ⟨B, hr⟩ := h
  have hjl := (List.getElem?_eq_some_iff.1 hj).1
  obtain ⟨g, cap, rfl, hg, hgs⟩ := owns_shape hr (by omega)
  exact ⟨g, cap, rfl, (World.ownsRow.cellAt hr (j * 5) (by omega)).trans (rnFlat_get .i64 _ j 0 x hj (by omega)), (World.ownsRow.cellAt hr (j * 5 + 1) (by omega)).trans (rnFlat_get .i64 _ j 1 x hj (by omega)),
    (World.ownsRow.cellAt hr (j * 5 + 2) (by omega)).trans (rnFlat_get .i64 _ j 2 x hj (by omega)), (World.ownsRow.cellAt hr (j * 5 + 3) (by omega)).trans (rnFlat_get .i64 _ j 3 x hj (by omega)), (World.ownsRow.cellAt hr (j * 5 + 4) (by omega)).trans (rnFlat_get .i64 _ j 4 x hj (by omega))⟩

end Go.Proofs.YtignjhbajjephaaGreatDoor
