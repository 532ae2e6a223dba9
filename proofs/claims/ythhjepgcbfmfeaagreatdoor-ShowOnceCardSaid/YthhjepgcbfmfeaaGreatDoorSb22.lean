/- Contract of cond.Whole. What Whole hands back, as a list of items. Contract of tree.Same, for two lists that are the same but for places. -/
import Derived.Test.YthhjepgcbfmfeaaGreatDoorSb21
import Derived.Test.YthhjepgcbfmfeaaGreatDoorSb15
import Derived.Test.YthhjepgcbfmfeaaGreatDoorSb09
import Derived.Test.YthhjepgcbfmfeaaGreatDoorSb17
import Derived.Deep.DeepCutAuto

namespace Go.Proofs.YthhjepgcbfmfeaaGreatDoor
open Go.RowKit

theorem runT_cap (s : ByteArray) (L : List Rn) : ∀ (k i : Nat) (T : List Tk), T.length ≤ 4096 → (runT s L k i T).er = 0 → (runT s L k i T).T.length ≤ 4096
  | 0, i, T, hT, _ => hT
  | k + 1, i, T, hT, he => by
    rw [runT] at he ⊢
    split
    · rename_i hi
      rw [if_pos hi] at he
      split
      · rename_i h; rw [if_pos h] at he; exact absurd he h
      · rename_i h
        rw [if_neg h] at he
        exact runT_cap s L k _ _ (oneT_on s L i T hi hT (by omega)).2 he
    · exact hT

/-- tokens of a text that is right: the last one is the end -/
theorem tokRes_end (s : ByteArray) (h : (tokRes s).er = 0) : ∃ X, (tokRes s).T = X ++ [endTk s] ∧ X.length ≤ 4096 := by
  unfold tokRes at h ⊢
  split
  · rename_i h1; rw [if_pos h1] at h; simp at h
  · rename_i h1
    rw [if_neg h1] at h
    split
    · rename_i h2; rw [if_pos h2] at h; exact absurd h h2
    · rename_i h2
      exact ⟨_, rfl, runT_cap _ _ _ _ _ (by simp) (by omega)⟩

/-- what Whole says -/
def wholeP (s : ByteArray) (prop : Bool) : PR :=
  if (tokRes s).er ≠ 0 then .bad (tokRes s).er (tokRes s).line (tokRes s).col
  else match readP (tokRes s).T prop 0 with
    | .bad e l c => .bad e l c
    | .ok o a => if (tkAt (tokRes s).T a).kind = 5 then .ok o a else .bad 4 (tkAt (tokRes s).T a).line (tkAt (tokRes s).T a).col

def WholePost (w : World) (p : PR) (e : Ending) (w' : World) : Prop :=
  match p with
  | .ok o _ => ∃ v, e = .returned (.tuple #[v, .agg #[.int .i64 0, .int .i64 0, .int .i64 0]]) ∧ w'.ownsRow w.heap.size 39 9 v o.length (itFlat o) ∧ Below w.heap.size w w'
  | .bad er l c => e = .returned (.tuple #[.slice none 0 0, .agg #[.int .i64 er, .int .i64 l, .int .i64 c]]) ∧ Below w.heap.size w w'

theorem tkIn_owns {w : World} {base B : Nat} {v : Value} {T : List Tk} (h : w.ownsRow base 54 5 v T.length (tkFlat T)) (hB : w.heap.size ≤ B) (hT : T.length ≤ 1000000) : TkIn w B v T := by
  rcases h.2 with ⟨rfl, h0⟩ | ⟨g, cap, cur, rfl, hb, hg, _⟩
  · exact ⟨none, 0, by rw [h0], hT, .inl (List.length_eq_zero_iff.1 h0)⟩
  · have hlt := (Array.getElem?_eq_some_iff.1 hg).1
    refine ⟨_, cap, rfl, hT, .inr ⟨g, 0, rfl, by omega, hlt, fun k x hx => ?_⟩⟩
    have hk := (List.getElem?_eq_some_iff.1 hx).1
    have cell : ∀ j, j < 5 → w.cell? ⟨g, 0 + k * 5 + j, none⟩ = (tkCells x)[j]? := fun j hj => by
      rw [Nat.zero_add, World.ownsRow.cellAt h (k * 5 + j) (by omega), tkFlat_get T k j x hx hj]
    exact ⟨cell 0 (by omega), cell 1 (by omega), cell 2 (by omega), cell 3 (by omega), cell 4 (by omega)⟩

theorem readP_in {T : List Tk} {prop : Bool} {i : Int} {o : List It} {a : Int} (h : readP T prop i = .ok o a) : 0 ≤ i ∧ i < a ∧ a ≤ T.length ∧ (tkAt T (a - 1)).kind ≠ 5 := by
  unfold readP at h
  cases hp : (bothP T prop 25).2 i with
  | bad e l c => rw [hp] at h; cases h
  | ok o1 a1 =>
    rw [hp] at h
    dsimp only at h
    split at h
    · cases h
    · simp only [PR.ok.injEq] at h
      obtain ⟨rfl, rfl⟩ := h
      have g := (both_good T prop 25).2 _ _ _ hp
      exact ⟨g.1, g.2.1, g.2.2.1, (both_good2 T prop 25).2 _ _ _ hp⟩

theorem readP_no {T : List Tk} {prop : Bool} {i : Int} {e l c : Int} (h : readP T prop i = .bad e l c) : e ≠ 0 := by
  unfold readP at h
  cases hp : (bothP T prop 25).2 i with
  | bad e1 l1 c1 => rw [hp] at h; simp only [PR.bad.injEq] at h; have := (both_no T prop 25).2 _ _ _ _ hp; omega
  | ok o1 a1 =>
    rw [hp] at h
    dsimp only at h
    split at h
    · simp only [PR.bad.injEq] at h; omega
    · cases h

set_option maxRecDepth 100000 in
set_option maxHeartbeats 4000000 in
theorem whole_any (s : ByteArray) (prop : Bool) (w : World) (hm : MaxCell w) (hs : s.size ≤ 4294967200) :
    Calls Tryz.prog 8 #[.string s, .bool prop] w (WholePost w (wholeP s prop)) := by
  have HZ : 2 < w.heap.size := by obtain ⟨m, hm⟩ := hm; exact World.block_lt_of_cell? w _ hm
  have hm0 := hm.below ((Below.refl w.heap.size w).alloc (Nat.le_refl _) (.cells #[.int .i64 0, .int .i64 0, .int .i64 0] 31)) HZ
  have HTK := Lib.hid (tokens_any s _ hm0 hs)
  have HF0 : FtB (w.alloc (.cells #[.int .i64 0, .int .i64 0, .int .i64 0] 31)) w.heap.size 0 0 0 := heap_alloc_new w _
  have hb0 : Below w.heap.size w (w.alloc (.cells #[.int .i64 0, .int .i64 0, .int .i64 0] 31)) := (Below.refl _ w).alloc (Nat.le_refl _) _
  have hsz0 : (w.alloc (.cells #[.int .i64 0, .int .i64 0, .int .i64 0] 31)).heap.size = w.heap.size + 1 := by simp
  obtain ⟨er, her⟩ : ∃ e, (tokRes s).er = e := ⟨_, rfl⟩
  obtain ⟨tl, htl⟩ : ∃ e, (tokRes s).line = e := ⟨_, rfl⟩
  obtain ⟨tc, htc⟩ : ∃ e, (tokRes s).col = e := ⟨_, rfl⟩
  have HER := Lib.hid her; have HTL := Lib.hid htl; have HTC := Lib.hid htc
  have HF0 := Lib.hid HF0; have HB0 := Lib.hid hb0; have HS0 := Lib.hid hsz0
  clear hm hm0 hb0 hsz0 htl htc
  by_cases h0 : er = 0
  · subst h0
    obtain ⟨X, hX, hXl⟩ := tokRes_end s her
    obtain ⟨T, hT⟩ : ∃ T, (tokRes s).T = T := ⟨_, rfl⟩
    have HT := Lib.hid hT
    have hTl : T.length ≤ 1000000 := by rw [← hT, hX]; simp; omega
    have hEnd : ∀ a : Int, (tkAt T (a - 1)).kind ≠ 5 → 0 < a → a ≤ T.length → a < T.length := by
      intro a h1 h2 h3
      refine Classical.byContradiction fun h4 => h1 ?_
      have e : a - 1 = ((X.length : Nat) : Int) := by rw [← hT, hX] at h3 h4; simp at h3 h4; omega
      have : T[X.length]? = some (endTk s) := by rw [← hT, hX]; simp
      rw [e, tkAt_some this]; rfl
    have HEND := Lib.hid hEnd
    have HTP := Lib.hid (show 0 < T.length by rw [← hT, hX]; simp)
    have HTL6 := Lib.hid hTl
    have HU : Hid (wholeP s prop = match readP T prop 0 with
      | .bad e l c => .bad e l c
      | .ok o a => if (tkAt T a).kind = 5 then .ok o a else .bad 4 (tkAt T a).line (tkAt T a).col) := by unfold Hid wholeP; rw [if_neg (by omega), hT]
    clear hX hXl hEnd hT her
    cases hp : readP T prop 0 with
    | bad e l c =>
      have hne := readP_no hp
      have hneb : (e != 0) = true := by simpa using hne
      have HP := Lib.hid hp
      unfold Hid at HU
      rw [hp] at HU
      replace HU := Lib.hid HU
      clear hp hne
      go_enter Tryz.func8, Tryz.ntmps8
      go_wp2_with fail
      refine HTK.out.mono ?_
      rintro en w1 ⟨v, rfl, hown, hb1⟩
      rw [HT.out] at hown
      rw [HER.out, faultV_ok]
      obtain ⟨g, cap, hv, hg, hgs⟩ := owns_shape hown HTP.out
      rw [HS0.out] at hg
      subst hv
      have hf1 := (HF0.out.below hb1).alloc (.cells #[.int .i64 0, .int .i64 0, .int .i64 0] 31)
      have hf7 : FtB (w1.alloc (.cells #[.int .i64 0, .int .i64 0, .int .i64 0] 31)) w1.heap.size 0 0 0 := heap_alloc_new w1 _
      have hal := (Below.refl w1.heap.size w1).alloc (Nat.le_refl _) (.cells #[.int .i64 0, .int .i64 0, .int .i64 0] 31)
      have HOW := Lib.hid (hown.alloc (.cells #[.int .i64 0, .int .i64 0, .int .i64 0] 31))
      have HBB := Lib.hid ((HB0.out.trans (hb1.mono HB0.out.size)).trans (hal.mono (Nat.le_trans HB0.out.size hb1.size)))
      have hlt := (HF0.out.below hb1).lt
      have F1 := Lib.hid hf1; have F7 := Lib.hid hf7
      have hs1 := hb1.size
      rw [HS0.out] at hs1
      clear hown hb1 hf1 hf7 hal
      go_wp2_with fail
      refine (read_any (tkIn_owns HOW.out (Nat.le_refl _) HTL6.out) 0 prop (by omega) (by omega)).mono ?_
      rw [HP.out]
      rintro en w2 ⟨rfl, hb2⟩
      have f5 := F1.out.below hb2
      have f7 := F7.out.below hb2
      obtain ⟨q0, q1, q2⟩ := f5.facts
      obtain ⟨z0, z1, z2⟩ := f5.free
      obtain ⟨p0, p1, p2⟩ := f7.facts
      obtain ⟨y0, y1, y2⟩ := f7.free
      have hl5 := f5.lt
      have hl7 := f7.lt
      have HB2 := Lib.hid (HBB.out.trans (hb2.mono HBB.out.size))
      clear f5 f7 hb2
      go_wp2
      go_region
      go_wp2
      refine bodyPost_ret (v := .tuple #[.slice none 0 0, .agg #[.int .i64 e, .int .i64 l, .int .i64 c]]) (by simp [results, Tryz.results8, go_sem, q0, q1, q2]) rfl ?_
      rw [HU.out]
      exact ⟨rfl, (below_fault (below_fault HB2.out (by omega) _ _ _) (Nat.le_refl _) _ _ _).drew⟩
    | ok o a =>
      have hin := readP_in hp
      have haT := HEND.out a hin.2.2.2 (by omega) hin.2.2.1
      obtain ⟨ka, hka⟩ : ∃ ka : Nat, a = ka := ⟨a.toNat, by omega⟩
      subst hka
      have hkT : ka < T.length := by omega
      obtain ⟨y, hy⟩ : ∃ y, T[ka]? = some y := ⟨_, List.getElem?_eq_getElem hkT⟩
      have HY := Lib.hid hy
      have HYA := Lib.hid (tkAt_some hy)
      have HP := Lib.hid hp
      unfold Hid at HU
      rw [hp] at HU
      dsimp only at HU
      rw [HYA.out] at HU
      replace HU := Lib.hid HU
      have hkz : (ka : Int) < (T.length : Int) := by omega
      have hkz0 : (0 : Int) ≤ (ka : Int) := by omega
      clear hp hin haT hy
      by_cases h5 : y.kind = 5
      · have h5b : (y.kind != 5) = false := by simp [h5]
        have HU : Hid (wholeP s prop = .ok o ka) := by unfold Hid; rw [HU.out, if_pos h5]
        clear h5
        go_enter Tryz.func8, Tryz.ntmps8
        go_wp2_with fail
        refine HTK.out.mono ?_
        rintro en w1 ⟨v, rfl, hown, hb1⟩
        rw [HT.out] at hown
        rw [HER.out, faultV_ok]
        obtain ⟨g, cap, hv, hg, hgs⟩ := owns_shape hown HTP.out
        rw [HS0.out] at hg
        subst hv
        have hf1 := (HF0.out.below hb1).alloc (.cells #[.int .i64 0, .int .i64 0, .int .i64 0] 31)
        have hf7 : FtB (w1.alloc (.cells #[.int .i64 0, .int .i64 0, .int .i64 0] 31)) w1.heap.size 0 0 0 := heap_alloc_new w1 _
        have hal := (Below.refl w1.heap.size w1).alloc (Nat.le_refl _) (.cells #[.int .i64 0, .int .i64 0, .int .i64 0] 31)
        have HOW := Lib.hid (hown.alloc (.cells #[.int .i64 0, .int .i64 0, .int .i64 0] 31))
        have HBB := Lib.hid ((HB0.out.trans (hb1.mono HB0.out.size)).trans (hal.mono (Nat.le_trans HB0.out.size hb1.size)))
        have hlt := (HF0.out.below hb1).lt
        have F1 := Lib.hid hf1; have F7 := Lib.hid hf7
        have hs1 := hb1.size
        rw [HS0.out] at hs1
        clear hown hb1 hf1 hf7 hal
        go_wp2_with fail
        refine (read_any (tkIn_owns HOW.out (Nat.le_refl _) HTL6.out) 0 prop (by omega) (by omega)).mono ?_
        rw [HP.out]
        rintro en w2 ⟨v2, rfl, hown2, hb2⟩
        obtain ⟨ad2, cap2, rfl⟩ := owns_len hown2
        have f5 := F1.out.below hb2
        have f7 := F7.out.below hb2
        obtain ⟨q0, q1, q2⟩ := f5.facts
        obtain ⟨z0, z1, z2⟩ := f5.free
        obtain ⟨p0, p1, p2⟩ := f7.facts
        obtain ⟨y0, y1, y2⟩ := f7.free
        have hl5 := f5.lt
        have hl7 := f7.lt
        have ho2 := owns_below HOW.out hb2
        have hgl : g < w2.heap.size := (ho2.lt g rfl).2
        have cell : ∀ j, j < 5 → w2.cell? ⟨g, ka * 5 + j, none⟩ = (tkCells y)[j]? := fun j hj => by
          rw [World.ownsRow.cellAt ho2 (ka * 5 + j) (by omega), tkFlat_get T ka j y HY.out hj]
        have d0 := cell 0 (by omega); have d1 := cell 1 (by omega); have d2 := cell 2 (by omega); have d3 := cell 3 (by omega); have d4 := cell 4 (by omega)
        simp only [tkCells, List.getElem?_cons_zero, List.getElem?_cons_succ, Nat.add_zero] at d0 d1 d2 d3 d4
        have hg1 : g ≠ w.heap.size := by have := hg; omega
        have hg7 : g ≠ w1.heap.size := by have := hgs; omega
        have HB2 := Lib.hid (HBB.out.trans (hb2.mono HBB.out.size))
        have HO2 := Lib.hid hown2
        have F52 := Lib.hid f5; have F72 := Lib.hid f7
        clear f5 f7 hb2 ho2 cell hown2
        have hne57 : w.heap.size ≠ w1.heap.size := by omega
        have OWN := Lib.hid ((FtB.row (F52.out.over hne57 (.int .i64 0) (.int .i64 0) (.int .i64 0)) (F72.out.row HO2.out (by decide) 0 0 0) (by decide) 0 0 0).alloc (.cells #[.int .i64 y.kind, .string y.text, .int .i64 y.num, .int .i64 y.line, .int .i64 y.col] 54))
        have BEL := Lib.hid ((below_fault (below_fault HB2.out (show w.heap.size ≤ w1.heap.size by omega) (.int .i64 0) (.int .i64 0) (.int .i64 0)) (Nat.le_refl _) (.int .i64 0) (.int .i64 0) (.int .i64 0)).alloc (by simp; omega) (.cells #[.int .i64 y.kind, .string y.text, .int .i64 y.num, .int .i64 y.line, .int .i64 y.col] 54))
        have HE := Lib.hid (((F52.out.over hne57 (.int .i64 0) (.int .i64 0) (.int .i64 0)).stored 0 0 0).alloc (.cells #[.int .i64 y.kind, .string y.text, .int .i64 y.num, .int .i64 y.line, .int .i64 y.col] 54)).facts
        go_wp2
        obtain ⟨e0, e1, e2⟩ := HE.out
        refine bodyPost_ret (v := .tuple #[.slice ad2 o.length cap2, .agg #[.int .i64 0, .int .i64 0, .int .i64 0]]) (by simp [results, Tryz.results8, go_sem, e0, e1, e2]) rfl ?_
        rw [HU.out]
        exact ⟨_, rfl, owns_mono OWN.out (by simp; omega), BEL.out⟩
      · have h5b : (y.kind != 5) = true := by simpa using h5
        have HU : Hid (wholeP s prop = .bad 4 y.line y.col) := by unfold Hid; rw [HU.out, if_neg h5]
        clear h5
        go_enter Tryz.func8, Tryz.ntmps8
        go_wp2_with fail
        refine HTK.out.mono ?_
        rintro en w1 ⟨v, rfl, hown, hb1⟩
        rw [HT.out] at hown
        rw [HER.out, faultV_ok]
        obtain ⟨g, cap, hv, hg, hgs⟩ := owns_shape hown HTP.out
        rw [HS0.out] at hg
        subst hv
        have hf1 := (HF0.out.below hb1).alloc (.cells #[.int .i64 0, .int .i64 0, .int .i64 0] 31)
        have hf7 : FtB (w1.alloc (.cells #[.int .i64 0, .int .i64 0, .int .i64 0] 31)) w1.heap.size 0 0 0 := heap_alloc_new w1 _
        have hal := (Below.refl w1.heap.size w1).alloc (Nat.le_refl _) (.cells #[.int .i64 0, .int .i64 0, .int .i64 0] 31)
        have HOW := Lib.hid (hown.alloc (.cells #[.int .i64 0, .int .i64 0, .int .i64 0] 31))
        have HBB := Lib.hid ((HB0.out.trans (hb1.mono HB0.out.size)).trans (hal.mono (Nat.le_trans HB0.out.size hb1.size)))
        have hlt := (HF0.out.below hb1).lt
        have F1 := Lib.hid hf1; have F7 := Lib.hid hf7
        have hs1 := hb1.size
        rw [HS0.out] at hs1
        clear hown hb1 hf1 hf7 hal
        go_wp2_with fail
        refine (read_any (tkIn_owns HOW.out (Nat.le_refl _) HTL6.out) 0 prop (by omega) (by omega)).mono ?_
        rw [HP.out]
        rintro en w2 ⟨v2, rfl, hown2, hb2⟩
        obtain ⟨ad2, cap2, rfl⟩ := owns_len hown2
        have f5 := F1.out.below hb2
        have f7 := F7.out.below hb2
        obtain ⟨q0, q1, q2⟩ := f5.facts
        obtain ⟨z0, z1, z2⟩ := f5.free
        obtain ⟨p0, p1, p2⟩ := f7.facts
        obtain ⟨y0, y1, y2⟩ := f7.free
        have hl5 := f5.lt
        have hl7 := f7.lt
        have ho2 := owns_below HOW.out hb2
        have hgl : g < w2.heap.size := (ho2.lt g rfl).2
        have cell : ∀ j, j < 5 → w2.cell? ⟨g, ka * 5 + j, none⟩ = (tkCells y)[j]? := fun j hj => by
          rw [World.ownsRow.cellAt ho2 (ka * 5 + j) (by omega), tkFlat_get T ka j y HY.out hj]
        have d0 := cell 0 (by omega); have d1 := cell 1 (by omega); have d2 := cell 2 (by omega); have d3 := cell 3 (by omega); have d4 := cell 4 (by omega)
        simp only [tkCells, List.getElem?_cons_zero, List.getElem?_cons_succ, Nat.add_zero] at d0 d1 d2 d3 d4
        have hg1 : g ≠ w.heap.size := by have := hg; omega
        have hg7 : g ≠ w1.heap.size := by have := hgs; omega
        have HB2 := Lib.hid (HBB.out.trans (hb2.mono HBB.out.size))
        have HO2 := Lib.hid hown2
        have F52 := Lib.hid f5; have F72 := Lib.hid f7
        clear f5 f7 hb2 ho2 cell hown2
        have hne57 : w.heap.size ≠ w1.heap.size := by omega
        have OWN := Lib.hid ((FtB.row (F52.out.over hne57 (.int .i64 0) (.int .i64 0) (.int .i64 0)) (F72.out.row HO2.out (by decide) 0 0 0) (by decide) 4 y.line y.col).alloc (.cells #[.int .i64 y.kind, .string y.text, .int .i64 y.num, .int .i64 y.line, .int .i64 y.col] 54))
        have BEL := Lib.hid ((below_fault (below_fault HB2.out (show w.heap.size ≤ w1.heap.size by omega) (.int .i64 0) (.int .i64 0) (.int .i64 0)) (Nat.le_refl _) (.int .i64 4) (.int .i64 y.line) (.int .i64 y.col)).alloc (by simp; omega) (.cells #[.int .i64 y.kind, .string y.text, .int .i64 y.num, .int .i64 y.line, .int .i64 y.col] 54))
        have HE := Lib.hid (((F52.out.over hne57 (.int .i64 0) (.int .i64 0) (.int .i64 0)).stored 4 y.line y.col).alloc (.cells #[.int .i64 y.kind, .string y.text, .int .i64 y.num, .int .i64 y.line, .int .i64 y.col] 54)).facts
        go_wp2
        go_region
        go_wp2
        obtain ⟨e0, e1, e2⟩ := HE.out
        refine bodyPost_ret (v := .tuple #[.slice none 0 0, .agg #[.int .i64 4, .int .i64 y.line, .int .i64 y.col]]) (by simp [results, Tryz.results8, go_sem, e0, e1, e2]) rfl ?_
        rw [HU.out]
        exact ⟨rfl, BEL.out.drew⟩
  · have HE0 := Lib.hid h0
    have HU : Hid (wholeP s prop = .bad er tl tc) := by unfold Hid wholeP; rw [HER.out, if_pos h0, HTL.out, HTC.out]
    have hne : (er != 0) = true := by simpa using h0
    clear h0 her
    go_enter Tryz.func8, Tryz.ntmps8
    go_wp2_with fail
    refine HTK.out.mono ?_
    rintro en w1 ⟨v, rfl, hown, hb1⟩
    rw [HER.out, HTL.out, HTC.out, faultV_no HE0.out]
    have hf1 := HF0.out.below hb1
    obtain ⟨q0, q1, q2⟩ := hf1.facts
    obtain ⟨z0, z1, z2⟩ := hf1.free
    have hlt1 := hf1.lt
    have HBB := Lib.hid (HB0.out.trans (hb1.mono HB0.out.size))
    have HE := Lib.hid ((hf1.stored er tl tc).alloc (.cells #[.int .i64 er, .int .i64 tl, .int .i64 tc] 31)).facts
    clear hown hb1 hf1
    go_wp2
    go_region
    go_wp2
    obtain ⟨e0, e1, e2⟩ := HE.out
    refine bodyPost_ret (v := .tuple #[.slice none 0 0, .agg #[.int .i64 er, .int .i64 tl, .int .i64 tc]]) (by simp [results, Tryz.results8, go_sem, e0, e1, e2]) rfl ?_
    rw [HU.out]
    exact ⟨rfl, ((below_fault HBB.out (Nat.le_refl _) _ _ _).alloc (by have := HBB.out.size; simp; omega) _).drew⟩

end Go.Proofs.YthhjepgcbfmfeaaGreatDoor

namespace Go.Proofs.YthhjepgcbfmfeaaGreatDoor
open Go.RowKit

theorem FtB.drewN {w : World} {b : Nat} {e l c : Int} (h : FtB w b e l c) (n : Nat) : FtB (w.drewN n) b e l c := h

end Go.Proofs.YthhjepgcbfmfeaaGreatDoor

namespace Go.Proofs.YthhjepgcbfmfeaaGreatDoor
open Go.RowKit

/-- an item at no place -/
def It.bare (x : It) : It := ⟨x.op, x.ln, x.lnum, x.rn, x.rnum, x.name, x.user, 0, 0⟩

set_option maxRecDepth 100000 in
set_option maxHeartbeats 800000 in
theorem same1_any (w : World) (op lnum rnum l1 c1 l2 c2 : Int) (ln rn name user : ByteArray) :
    Calls Tryz.prog 16 #[.agg #[.int .i64 op, .string ln, .int .i64 lnum, .string rn, .int .i64 rnum, .string name, .string user, .int .i64 l1, .int .i64 c1], .agg #[.int .i64 op, .string ln, .int .i64 lnum, .string rn, .int .i64 rnum, .string name, .string user, .int .i64 l2, .int .i64 c2]] w fun e w' => e = .returned (.bool true) ∧ Below w.heap.size w w' := by
  have h1 : ItB ((w.alloc (.cells #[.int .i64 op, .string ln, .int .i64 lnum, .string rn, .int .i64 rnum, .string name, .string user, .int .i64 0, .int .i64 0] 39)).alloc (.cells #[.int .i64 op, .string ln, .int .i64 lnum, .string rn, .int .i64 rnum, .string name, .string user, .int .i64 0, .int .i64 0] 39)) w.heap.size ⟨op, ln, lnum, rn, rnum, name, user, 0, 0⟩ := ItB.alloc (x := ⟨op, ln, lnum, rn, rnum, name, user, 0, 0⟩) (heap_alloc_new w _) _
  have h2 : ItB ((w.alloc (.cells #[.int .i64 op, .string ln, .int .i64 lnum, .string rn, .int .i64 rnum, .string name, .string user, .int .i64 0, .int .i64 0] 39)).alloc (.cells #[.int .i64 op, .string ln, .int .i64 lnum, .string rn, .int .i64 rnum, .string name, .string user, .int .i64 0, .int .i64 0] 39)) (w.heap.size + 1) ⟨op, ln, lnum, rn, rnum, name, user, 0, 0⟩ := heap_at_size _ _ _ (by simp)
  have HB := Lib.hid (show Below w.heap.size w ((w.alloc (.cells #[.int .i64 op, .string ln, .int .i64 lnum, .string rn, .int .i64 rnum, .string name, .string user, .int .i64 0, .int .i64 0] 39)).alloc (.cells #[.int .i64 op, .string ln, .int .i64 lnum, .string rn, .int .i64 rnum, .string name, .string user, .int .i64 0, .int .i64 0] 39)) from ((Below.refl _ w).alloc (Nat.le_refl _) _).alloc (by simp) _)
  obtain ⟨a0, a1, a2, a3, a4, a5, a6, a7, a8⟩ := h1.facts
  obtain ⟨b0, b1, b2, b3, b4, b5, b6, b7, b8⟩ := h2.facts
  dsimp only at a0 a1 a2 a3 a4 a5 a6 a7 a8 b0 b1 b2 b3 b4 b5 b6 b7 b8
  clear h1 h2
  go_enter Tryz.func16, Tryz.ntmps16
  go_wp2
  go_ret
  exact ⟨rfl, HB.out⟩

theorem bare_inj {x y : It} (h : x.bare = y.bare) : x.op = y.op ∧ x.ln = y.ln ∧ x.lnum = y.lnum ∧ x.rn = y.rn ∧ x.rnum = y.rnum ∧ x.name = y.name ∧ x.user = y.user := by
  simp only [It.bare, It.mk.injEq] at h
  exact ⟨h.1, h.2.1, h.2.2.1, h.2.2.2.1, h.2.2.2.2.1, h.2.2.2.2.2.1, h.2.2.2.2.2.2.1⟩

set_option maxRecDepth 100000 in
set_option maxHeartbeats 4000000 in
theorem equal_any {w : World} {u v : Value} {S T : List It} (ha : ItRow w u S) (hb : ItRow w v T) (hT : S.length ≤ 5000) (hST : S.map It.bare = T.map It.bare) :
    Calls Tryz.prog 15 #[u, v, .func (.func 16) #[] #[]] w fun e w' => e = .returned (.bool true) ∧ Below w.heap.size w w' := by
  have hl : S.length = T.length := by simpa using congrArg List.length hST
  obtain ⟨ad, cap, hu⟩ := ha.len
  obtain ⟨ad2, cap2, hv⟩ := hb.len
  rw [← hl] at hv
  have HA := Lib.hid ha
  have HB := Lib.hid hb
  have HST := Lib.hid hST
  have HL := Lib.hid hl
  subst hu
  subst hv
  clear ha hb hl hST
  go_enter Tryz.func15, Tryz.ntmps15
  go_wp2
  go_loopw [17] (fun i wr => ∃ k : Nat, i = .int .i64 k ∧ k ≤ S.length ∧ Hid (Below w.heap.size w wr)) (fun i _ => S.length - (intOf i).toNat)
  case atStart => exact ⟨0, by go_num, by omega, Below.refl _ _⟩
  case round =>
    obtain ⟨k, rfl, hk, HBR⟩ := hrel
    by_cases hlt : k < S.length
    · obtain ⟨x, hx⟩ : ∃ x, S[k]? = some x := ⟨_, List.getElem?_eq_getElem hlt⟩
      obtain ⟨y, hy⟩ : ∃ y, T[k]? = some y := ⟨_, List.getElem?_eq_getElem (by rw [← HL.out]; exact hlt)⟩
      have hxy : x.bare = y.bare := by
        have h1 : (S.map It.bare)[k]? = some x.bare := by rw [List.getElem?_map, hx]; rfl
        have h2 : (T.map It.bare)[k]? = some y.bare := by rw [List.getElem?_map, hy]; rfl
        rw [HST.out, h2] at h1
        exact (Option.some.inj h1).symm
      obtain ⟨e1, e2, e3, e4, e5, e6, e7⟩ := bare_inj hxy
      obtain ⟨g, c1, hg, hgl, a0, a1, a2, a3, a4, a5, a6, a7, a8⟩ := (HA.out.keep HBR.out).at hx
      have hrow2 := (HB.out.keep HBR.out).alloc (.cells #[.int .i64 x.op, .string x.ln, .int .i64 x.lnum, .string x.rn, .int .i64 x.rnum, .string x.name, .string x.user, .int .i64 x.line, .int .i64 x.col] 39)
      obtain ⟨g2, c2, hg2, hgl2, b0, b1, b2, b3, b4, b5, b6, b7, b8⟩ := hrow2.at hy
      rw [← HL.out] at hg2
      simp only [Value.slice.injEq, true_and] at hg hg2
      obtain ⟨rfl, rfl⟩ := hg
      obtain ⟨rfl, rfl⟩ := hg2
      have h1 : ItB ((wr.alloc (.cells #[.int .i64 x.op, .string x.ln, .int .i64 x.lnum, .string x.rn, .int .i64 x.rnum, .string x.name, .string x.user, .int .i64 x.line, .int .i64 x.col] 39)).alloc (.cells #[.int .i64 y.op, .string y.ln, .int .i64 y.lnum, .string y.rn, .int .i64 y.rnum, .string y.name, .string y.user, .int .i64 y.line, .int .i64 y.col] 39)) wr.heap.size x := ItB.alloc (heap_alloc_new wr _) _
      have h2 : ItB ((wr.alloc (.cells #[.int .i64 x.op, .string x.ln, .int .i64 x.lnum, .string x.rn, .int .i64 x.rnum, .string x.name, .string x.user, .int .i64 x.line, .int .i64 x.col] 39)).alloc (.cells #[.int .i64 y.op, .string y.ln, .int .i64 y.lnum, .string y.rn, .int .i64 y.rnum, .string y.name, .string y.user, .int .i64 y.line, .int .i64 y.col] 39)) (wr.heap.size + 1) y := heap_at_size _ _ _ (by simp)
      obtain ⟨p0, p1, p2, p3, p4, p5, p6, p7, p8⟩ := h1.facts
      obtain ⟨q0, q1, q2, q3, q4, q5, q6, q7, q8⟩ := h2.facts
      have HB2 := Lib.hid ((HBR.out.alloc HBR.out.size (.cells #[.int .i64 x.op, .string x.ln, .int .i64 x.lnum, .string x.rn, .int .i64 x.rnum, .string x.name, .string x.user, .int .i64 x.line, .int .i64 x.col] 39)).alloc (by have := HBR.out.size; simp; omega) (.cells #[.int .i64 y.op, .string y.ln, .int .i64 y.lnum, .string y.rn, .int .i64 y.rnum, .string y.name, .string y.user, .int .i64 y.line, .int .i64 y.col] 39))
      have hkz : (k : Int) < (S.length : Int) := by omega
      have hC := same1_any ((wr.alloc (.cells #[.int .i64 x.op, .string x.ln, .int .i64 x.lnum, .string x.rn, .int .i64 x.rnum, .string x.name, .string x.user, .int .i64 x.line, .int .i64 x.col] 39)).alloc (.cells #[.int .i64 y.op, .string y.ln, .int .i64 y.lnum, .string y.rn, .int .i64 y.rnum, .string y.name, .string y.user, .int .i64 y.line, .int .i64 y.col] 39)) x.op x.lnum x.rnum x.line x.col y.line y.col x.ln x.rn x.name x.user
      rw [show (Value.agg #[.int .i64 x.op, .string x.ln, .int .i64 x.lnum, .string x.rn, .int .i64 x.rnum, .string x.name, .string x.user, .int .i64 y.line, .int .i64 y.col]) = itV y by rw [itV, e1, e2, e3, e4, e5, e6, e7]] at hC
      have HC := Lib.hid hC
      clear hx hy hxy h1 h2 hrow2 hC e1 e2 e3 e4 e5 e6 e7
      go_wp2_with fail
      refine HC.out.mono ?_
      rintro e w2 ⟨rfl, hb2⟩
      have HB3 := Lib.hid (HB2.out.trans (hb2.mono HB2.out.size))
      clear hb2
      go_wp2
      go_roundw
      case rel => exact ⟨k + 1, by go_num, by omega, HB3.out⟩
      case measure => simp [intOf]; omega
    · have hkz : (S.length : Int) ≤ (k : Int) := by omega
      go_wp2
      go_ret
      exact ⟨rfl, HBR.out⟩

set_option maxRecDepth 100000 in
set_option maxHeartbeats 2000000 in
theorem same_list {w : World} {u v : Value} {S T : List It} (ha : ItRow w u S) (hb : ItRow w v T) (hT : S.length ≤ 5000) (hST : S.map It.bare = T.map It.bare) :
    Calls Tryz.prog 10 #[u, v] w fun e w' => e = .returned (.bool true) ∧ Below w.heap.size w w' := by
  have HC := Lib.hid (equal_any ha hb hT hST)
  clear ha hb hT hST
  go_enter Tryz.func10, Tryz.ntmps10
  go_wp2_with fail
  refine HC.out.mono ?_
  rintro e w2 ⟨rfl, hb2⟩
  go_wp2
  go_ret
  exact ⟨rfl, hb2⟩

end Go.Proofs.YthhjepgcbfmfeaaGreatDoor
