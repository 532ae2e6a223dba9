/- Plain: what is read is a formula whose items are as a text tells them, and whose own text is no deeper. A block of cells of whatever shape: what it holds, and that it stays. Contracts of the two Signs, the two Prints, and the two words. -/
import Derived.Test.YthhjepgcbfmfeaaGreatDoorSb24
import Derived.Test.YthhjepgcbfmfeaaGreatDoorSb25
import Derived.Test.YthhjepgcbfmfeaaGreatDoorSb01
import Derived.Test.YthhjepgcbfmfeaaGreatDoorShelf
import Derived.Lib.AppendIntMem
import Derived.Laws.IdiomStrings
import Derived.Test.YthhjepgcbfmfeaaGreatDoorSb15

namespace Go.Proofs.YthhjepgcbfmfeaaGreatDoor
open Go.RowKit

/-! tokens -/
def TkOK (x : Tk) : Prop := (x.kind = 1 → nameOK x.text = true) ∧ (x.kind = 3 → -9223372036854775808 ≤ x.num ∧ x.num ≤ 9223372036854775807)
theorem valN_range (s : ByteArray) (b : Bool) : -9223372036854775808 ≤ (valN s b).1 ∧ (valN s b).1 ≤ 9223372036854775807 := by
  unfold valN
  split
  · split
    · dsimp only; omega
    · dsimp only; omega
  · split
    · dsimp only; omega
    · dsimp only; omega
theorem word_name {s : ByteArray} {L : List Rn} {i : Nat} (hO : RnOk s L) (hi : i < L.length) (hl : letterB (rAt L i) = true) (he : wordErr (txt s L i (wordN L i)) = 0) (hk : wordKind (txt s L i (wordN L i)) = 1) : nameOK (txt s L i (wordN L i)) = true := by
  have hin : innerB (rAt L i) = true := by unfold innerB; rw [hl]; rfl
  obtain ⟨h1, h2, h3⟩ := row_facts (q := innerB) (by decide) hi hin
  have hst := stands_of hO h1 (fun k hk => inner_ascii (h3 k hk)) h2
  have hsz : (txt s L i (wordN L i)).size = wordN L i := (word_text hO hi hl).1
  have hw : wordN L i = rowE innerB L i - i := rfl
  rw [← hw] at h1 h2 h3 hst
  obtain ⟨t, ht⟩ : ∃ t, txt s L i (wordN L i) = t := ⟨_, rfl⟩
  rw [ht] at he hk hst hsz ⊢
  have hkn : knownB t = false := by
    unfold wordKind at hk
    split at hk
    · omega
    · rename_i h; simpa using h
  unfold wordErr at he
  rw [hkn, if_neg (by simp)] at he
  have hg : hasGreatB t = false := by
    split at he
    · omega
    · rename_i h; simpa using h
  rw [hg, if_neg (by simp)] at he
  have h16 : t.size ≤ 16 := by
    split at he
    · omega
    · omega
  unfold nameOK
  rw [hkn, decide_eq_true h16]
  have hn : nameL t.data.toList = true := by
    rw [nameL_iff]
    refine ⟨by simp; omega, fun j b hj => ?_⟩
    have hjl := (List.getElem?_eq_some_iff.1 hj).1
    have hjn : j < wordN L i := by simp at hjl; omega
    have e1 := hst.same j b hj
    have e2 := h3 j hjn
    have e3 : greatB (b.toNat : Int) = false := by
      refine Bool.eq_false_iff.2 fun hgb => ?_
      have : hasGreatB t = true := by unfold hasGreatB; exact List.any_eq_true.2 ⟨b, List.mem_of_getElem? hj, hgb⟩
      rw [this] at hg; cases hg
    rw [e1] at e2
    unfold nameByte
    unfold innerB letterB smallB digitB at e2
    rw [e3] at e2
    by_cases hj0 : j = 0
    · subst hj0
      rw [Nat.add_zero] at e1
      rw [e1] at hl
      unfold letterB at hl
      rw [e3] at hl
      unfold smallB at hl
      simp only [Bool.or_false, decide_eq_true_eq] at hl
      simp only [Bool.or_eq_true, Bool.and_eq_true, decide_eq_true_eq]
      omega
    · simp only [Bool.or_eq_true, Bool.or_false, decide_eq_true_eq] at e2
      simp only [Bool.or_eq_true, Bool.and_eq_true, decide_eq_true_eq, decide_eq_false hj0, Bool.not_false, true_and]
      omega
  rw [hn]; rfl
theorem tokT_tkok {s : ByteArray} {L : List Rn} {i : Nat} {T : List Tk} (hO : RnOk s L) (hi : i < L.length) (he : (tokT s L i T).er = 0) : ∃ x, (tokT s L i T).T = T ++ [x] ∧ TkOK x := by
  unfold tokT at he ⊢
  by_cases hl : letterB (rAt L i) = true
  · rw [if_pos hl] at he ⊢
    exact ⟨_, rfl, fun hk => word_name hO hi hl he hk, fun hk => by
      have hk : wordKind (txt s L i (wordN L i)) = 3 := hk
      unfold wordKind at hk
      split at hk <;> omega⟩
  · rw [if_neg hl] at he ⊢
    by_cases hn : isNum L i = true
    · rw [if_pos hn] at he ⊢
      exact ⟨_, rfl, fun hk => by have hk : (3 : Int) = 1 := hk; omega, fun _ => valN_range _ _⟩
    · rw [if_neg hn] at he ⊢
      unfold signT at he ⊢
      by_cases h0 : signN (rAt L i) (rAt L (i + 1)) = 0
      · rw [if_pos h0] at he; cases he
      · rw [if_neg h0]
        exact ⟨_, rfl, fun hk => by have hk : (4 : Int) = 1 := hk; omega, fun hk => by have hk : (4 : Int) = 3 := hk; omega⟩
theorem oneT_tkok {s : ByteArray} {L : List Rn} {i : Nat} {T : List Tk} (hO : RnOk s L) (hi : i < L.length) (he : (oneT s L i T).er = 0) (h : ∀ x ∈ T, TkOK x) : ∀ x ∈ (oneT s L i T).T, TkOK x := by
  unfold oneT at he ⊢
  by_cases hb : blankB (rAt L i) = true
  · rw [if_pos hb]; exact h
  rw [if_neg hb] at he ⊢
  by_cases h35 : rAt L i = 35
  · rw [if_pos h35] at he ⊢
    unfold restT
    split
    · exact h
    · exact h
  rw [if_neg h35] at he ⊢
  unfold capT at he ⊢
  by_cases hr : (tokT s L i T).er ≠ 0
  · rw [if_pos hr] at he; exact absurd he hr
  rw [if_neg hr] at he ⊢
  by_cases hc : 4096 < (tokT s L i T).T.length
  · rw [if_pos hc] at he; simp at he
  rw [if_neg hc]
  obtain ⟨x, e, hx⟩ := tokT_tkok hO hi (Classical.not_not.1 hr)
  rw [e]
  intro y hy
  rcases List.mem_append.1 hy with hy | hy
  · exact h y hy
  · rw [List.mem_singleton.1 hy]; exact hx
theorem runT_tkok {s : ByteArray} {L : List Rn} (hO : RnOk s L) : ∀ (k i : Nat) (T : List Tk), (∀ x ∈ T, TkOK x) → (runT s L k i T).er = 0 → ∀ x ∈ (runT s L k i T).T, TkOK x
  | 0, i, T, h, _ => h
  | k + 1, i, T, h, he => by
    rw [runT] at he ⊢
    by_cases hi : i < L.length
    · rw [if_pos hi] at he ⊢
      by_cases h1 : (oneT s L i T).er ≠ 0
      · rw [if_pos h1] at he; exact absurd he h1
      · rw [if_neg h1] at he ⊢
        exact runT_tkok hO k _ _ (oneT_tkok hO hi (by omega) h) he
    · rw [if_neg hi]; exact h
theorem tokRes_tkok (s : ByteArray) (he : (tokRes s).er = 0) : ∀ x ∈ (tokRes s).T, TkOK x := by
  unfold tokRes at he ⊢
  by_cases hl : 16384 < (allR s).length
  · rw [if_pos hl] at he; simp at he
  rw [if_neg hl] at he ⊢
  by_cases h1 : (runT s (allR s) (allR s).length 0 []).er ≠ 0
  · rw [if_pos h1] at he; exact absurd he h1
  rw [if_neg h1]
  intro x hx
  rcases List.mem_append.1 hx with hx | hx
  · exact runT_tkok (rnOk s (by omega)) _ 0 [] (fun y hy => by cases hy) (by omega) x hx
  · rw [List.mem_singleton.1 hx]
    exact ⟨fun hk => by have hk : (5 : Int) = 1 := hk; omega, fun hk => by have hk : (5 : Int) = 3 := hk; omega⟩
theorem tkAt_ok {T : List Tk} (h : ∀ x ∈ T, TkOK x) (i : Int) : TkOK (tkAt T i) := by
  have hn : TkOK noTk := ⟨fun hk => by have hk : (5 : Int) = 1 := hk; omega, fun hk => by have hk : (5 : Int) = 3 := hk; omega⟩
  unfold tkAt
  split
  · exact hn
  · split
    · rename_i x hx; exact h x (List.mem_of_getElem? hx)
    · exact hn

/-! what is read -/
def GoodI (x : It) : Prop := namedB x = true ∧ Short x ∧ canI x = x.bare
theorem name_size {s : ByteArray} (h : nameOK s = true) : 0 < s.size ∧ s.size ≤ 16 := by
  unfold nameOK at h
  simp only [Bool.and_eq_true, decide_eq_true_eq] at h
  refine ⟨?_, h.1.2⟩
  rcases Nat.eq_zero_or_pos s.size with h0 | h0
  · have : s.data.toList = [] := List.length_eq_zero_iff.1 (by simpa using h0)
    rw [this] at h; simp [nameL] at h
  · exact h0
theorem zr : -9223372036854775808 ≤ (0 : Int) ∧ (0 : Int) ≤ 9223372036854775807 := ⟨by decide, by decide⟩
theorem item_goodI {op : Int} {t : Tk} (h : op < 3 ∨ 12 < op) : GoodI (item op t) := by
  refine ⟨?_, ⟨Nat.zero_le _, Nat.zero_le _, Nat.zero_le _, Nat.zero_le _, zr, zr⟩, ?_⟩
  · unfold namedB item; dsimp only; rw [if_neg (by omega), if_neg (by omega), if_neg (by omega)]
  · unfold canI item; dsimp only; rw [if_neg (by omega), if_neg (by omega), if_neg (by omega)]; rfl
theorem readWord_ok {t : Tk} (h : TkOK t) (hw : isWord t = true) : wordNm (wordName t) = true ∧ (wordName t).size ≤ 60 ∧ (-9223372036854775808 ≤ wordNum t ∧ wordNum t ≤ 9223372036854775807) ∧ nmI (wordName t) = wordName t ∧ nuI (wordName t) (wordNum t) = wordNum t := by
  unfold isWord at hw
  simp only [Bool.or_eq_true, decide_eq_true_eq] at hw
  unfold wordName wordNum
  rcases hw with hk | hk
  · have hn := h.1 hk
    obtain ⟨s0, s1⟩ := name_size hn
    rw [if_pos hk, if_pos hk]
    refine ⟨by unfold wordNm; rw [hn]; simp, by omega, ⟨by decide, by decide⟩, by unfold nmI; rw [if_neg (by omega)], by unfold nuI; rw [if_neg (by omega)]⟩
  · have hn := h.2 hk
    rw [if_neg (by omega), if_neg (by omega)]
    exact ⟨rfl, Nat.zero_le _, hn, rfl, rfl⟩
theorem compN_range (T : List Tk) (i : Int) : compN T i = 0 ∨ (3 ≤ compN T i ∧ compN T i ≤ 8) := by
  unfold compN
  repeat' split
  all_goals omega
/-- read as a formula, no deeper -/
def PF (n : Nat) (L : Int) (o : List It) : Prop := ∃ f : Fm, f.flat = o ∧ lv L (tightN f.op) (needF f) ≤ n ∧ ∀ x ∈ o, GoodI x
theorem lv_mono {L M t : Int} (n : Nat) (h : L ≤ M) : lv L t n ≤ lv M t n := by
  unfold lv
  split
  · rw [if_pos (by omega)]; exact Nat.le_refl _
  · split <;> omega
theorem PF.mono {n : Nat} {L M : Int} {o : List It} (h : PF n M o) (hl : L ≤ M) : PF n L o := by
  obtain ⟨f, e, hn, hg⟩ := h
  exact ⟨f, e, Nat.le_trans (lv_mono _ hl) hn, hg⟩
theorem PF.brk {n : Nat} {L : Int} {o : List It} (h : PF n L o) : PF (n + 1) 4 o := by
  obtain ⟨f, e, hn, hg⟩ := h
  refine ⟨f, e, ?_, hg⟩
  unfold lv at hn ⊢
  split at hn <;> split <;> omega
theorem PF.leaf {n : Nat} {x : It} (h : GoodI x) (ho : arN x.op = 0) : PF (n + 1) 4 [x] := by
  refine ⟨.leaf x ho, rfl, ?_, fun y hy => by rw [List.mem_singleton.1 hy]; exact h⟩
  have h4 : tightN x.op = 4 := by
    have : x.op ≠ 16 ∧ x.op ≠ 17 ∧ x.op ≠ 18 := by
      unfold arN at ho
      split at ho
      · omega
      split at ho
      · omega
      split at ho
      · omega
      · omega
    unfold tightN; rw [if_neg (by omega), if_neg (by omega), if_neg (by omega)]
  show lv 4 (tightN x.op) 1 ≤ n + 1
  rw [h4]
  show (if (4 : Int) < 4 then 2 else 1) ≤ n + 1
  rw [if_neg (by decide)]; omega
theorem arN_lo {op : Int} (h : 1 ≤ op ∧ op ≤ 14) : arN op = 0 := by unfold arN; rw [if_pos h]

theorem compP_F {T : List Tk} (hT : ∀ x ∈ T, TkOK x) (n : Nat) {i : Int} {o : List It} {a : Int} (he : compP T i = .ok o a) : PF (n + 1) 4 o := by
  unfold compP at he
  split at he
  · rename_i h1
    split at he
    · cases he
    · rename_i h2
      split at he
      · rename_i h3
        simp only [PR.ok.injEq] at he
        obtain ⟨rfl, _⟩ := he
        obtain ⟨a1, a2, a3, a4, a5⟩ := readWord_ok (tkAt_ok hT i) h1
        obtain ⟨b1, b2, b3, b4, b5⟩ := readWord_ok (tkAt_ok hT (i + 2)) h3
        have hr := compN_range T (i + 1)
        refine PF.leaf ⟨?_, ⟨a2, b2, Nat.zero_le _, Nat.zero_le _, a3, b3⟩, ?_⟩ (arN_lo (by dsimp only; omega))
        · unfold namedB; dsimp only; rw [if_pos (by omega), a1, b1]; rfl
        · unfold canI; dsimp only; rw [if_pos (by omega), a4, a5, b4, b5]; rfl
      · cases he
  · cases he
theorem namedP_F {T : List Tk} (hT : ∀ x ∈ T, TkOK x) (n : Nat) {i op : Int} (hop : 9 ≤ op ∧ op ≤ 11) {o : List It} {a : Int} (he : namedP T i op = .ok o a) : PF (n + 1) 4 o := by
  unfold namedP at he
  split at he
  · rename_i h1
    have hn := (tkAt_ok hT (i + 1)).1 h1
    obtain ⟨s0, s1⟩ := name_size hn
    simp only [PR.ok.injEq] at he
    obtain ⟨rfl, _⟩ := he
    refine PF.leaf ⟨?_, ⟨Nat.zero_le _, Nat.zero_le _, by dsimp only; omega, Nat.zero_le _, zr, zr⟩, ?_⟩ (arN_lo (by dsimp only; omega))
    · unfold namedB; dsimp only; rw [if_neg (by omega), if_neg (by omega), if_pos (by omega), hn]
    · unfold canI; dsimp only; rw [if_neg (by omega), if_neg (by omega), if_pos (by omega)]; rfl
  · cases he
theorem didP_F {T : List Tk} (hT : ∀ x ∈ T, TkOK x) (n : Nat) {i : Int} {o : List It} {a : Int} (he : didP T i = .ok o a) : PF (n + 1) 4 o := by
  unfold didP at he
  split at he
  · rename_i h1
    split at he
    · rename_i h2
      have hn := (tkAt_ok hT (i + 1)).1 h1
      obtain ⟨s0, s1⟩ := name_size hn
      have hm := (tkAt_ok hT (i + 2)).1 h2
      obtain ⟨m0, m1⟩ := name_size hm
      simp only [PR.ok.injEq] at he
      obtain ⟨rfl, _⟩ := he
      refine PF.leaf ⟨?_, ⟨Nat.zero_le _, Nat.zero_le _, by dsimp only; omega, by dsimp only; omega, zr, zr⟩, ?_⟩ (arN_lo (by show 1 ≤ (12 : Int) ∧ (12 : Int) ≤ 14; decide))
      · unfold namedB; dsimp only; rw [if_neg (by decide), if_pos rfl, hn, hm]; rfl
      · unfold canI; dsimp only; rw [if_neg (by decide), if_pos rfl]; rfl
    · cases he
  · cases he
theorem item_F (n : Nat) {op : Int} {t : Tk} {i a : Int} {o : List It} (hop : op = 1 ∨ op = 2 ∨ op = 13 ∨ op = 14) (he : PR.ok [item op t] i = .ok o a) : PF (n + 1) 4 o := by
  simp only [PR.ok.injEq] at he
  obtain ⟨rfl, _⟩ := he
  exact PF.leaf (item_goodI (by omega)) (arN_lo (by show 1 ≤ op ∧ op ≤ 14; omega))
theorem atomP_F {T : List Tk} (hT : ∀ x ∈ T, TkOK x) (n : Nat) {i : Int} {o : List It} {a : Int} (he : atomP T true i = .ok o a) : PF (n + 1) 4 o := by
  unfold atomP at he
  split at he
  · exact namedP_F hT n (by decide) he
  split at he
  · exact namedP_F hT n (by decide) he
  split at he
  · exact item_F n (by decide) he
  split at he
  · exact item_F n (by decide) he
  split at he
  · cases he
  split at he
  · exact namedP_F hT n (by decide) he
  split at he
  · exact didP_F hT n he
  split at he
  · exact item_F n (by decide) he
  split at he
  · exact item_F n (by decide) he
  · cases he
theorem GoodL {a b : List It} (ha : ∀ x ∈ a, GoodI x) (hb : ∀ x ∈ b, GoodI x) : ∀ x ∈ a ++ b, GoodI x := fun x hx => (List.mem_append.1 hx).elim (ha x) (hb x)
theorem GoodL.one {x : It} (h : GoodI x) : ∀ y ∈ [x], GoodI y := fun y hy => by rw [List.mem_singleton.1 hy]; exact h
theorem PF.one {n : Nat} {o : List It} {op : Int} {t : Tk} (h : PF n 4 o) (hop : op = 15 ∨ (19 ≤ op ∧ op ≤ 24)) : PF (n + 1) 4 (o ++ [item op t]) := by
  obtain ⟨f, e, hn, hg⟩ := h
  have ho : arN (item op t).op = 1 := by show arN op = 1; unfold arN; rw [if_neg (by omega), if_pos (by omega)]
  refine ⟨.one (item op t) ho f, by show f.flat ++ _ = _; rw [e], ?_, GoodL hg (GoodL.one (item_goodI (by omega)))⟩
  have h4 : tightN op = 4 := by unfold tightN; rw [if_neg (by omega), if_neg (by omega), if_neg (by omega)]
  show lv 4 (tightN op) (lv 4 (tightN f.op) (needF f) + 1) ≤ n + 1
  rw [h4]
  show (if (4 : Int) < 4 then _ else _) ≤ n + 1
  rw [if_neg (by decide)]; omega
theorem PF.until {n : Nat} {o o2 : List It} {op : Int} {t : Tk} (h : PF n 1 o) (h2 : PF n 1 o2) (hop : op = 25 ∨ op = 26) : PF (n + 1) 4 (o ++ o2 ++ [item op t]) := by
  obtain ⟨f, e, hn, hg⟩ := h
  obtain ⟨g, e2, hn2, hg2⟩ := h2
  have ho : arN (item op t).op = 2 := by show arN op = 2; unfold arN; rw [if_neg (by omega), if_neg (by omega), if_pos (by omega)]
  refine ⟨.two (item op t) ho f g, by show f.flat ++ g.flat ++ _ = _; rw [e, e2], ?_, GoodL (GoodL hg hg2) (GoodL.one (item_goodI (by omega)))⟩
  have t1 := tight_le f.op
  have t2 := tight_le g.op
  have h4 : tightN op = 4 := by unfold tightN; rw [if_neg (by omega), if_neg (by omega), if_neg (by omega)]
  have e3 : needF (.two (item op t) ho f g) = max (needF f) (needF g) + 1 := by
    rw [needF, if_neg (by show ¬ op = 16; omega), if_neg (by show ¬ op = 17; omega), if_neg (by show ¬ op = 18; omega)]
  show lv 4 (tightN op) (needF (.two (item op t) ho f g)) ≤ n + 1
  rw [h4, e3]
  unfold lv at hn hn2 ⊢
  rw [if_neg (by omega)] at hn hn2
  rw [if_neg (by decide)]; omega
theorem PF.imp {n : Nat} {o o2 : List It} {t : Tk} (h : PF (n + 1) 2 o) (h2 : PF n 1 o2) : PF (n + 1) 1 (o ++ o2 ++ [item 18 t]) := by
  obtain ⟨f, e, hn, hg⟩ := h
  obtain ⟨g, e2, hn2, hg2⟩ := h2
  have ho : arN (item 18 t).op = 2 := rfl
  refine ⟨.two (item 18 t) ho f g, by show f.flat ++ g.flat ++ _ = _; rw [e, e2], ?_, GoodL (GoodL hg hg2) (GoodL.one (item_goodI (by decide)))⟩
  have t2 := tight_le g.op
  have e3 : needF (.two (item 18 t) ho f g) = max (lv 2 (tightN f.op) (needF f)) (needF g + 1) := by
    rw [needF, if_neg (by show ¬ (18 : Int) = 16; decide), if_neg (by show ¬ (18 : Int) = 17; decide), if_pos (by rfl)]
  show lv 1 (tightN 18) (needF (.two (item 18 t) ho f g)) ≤ n + 1
  rw [e3]
  have e4 : lv 1 (tightN g.op) (needF g) = needF g := by unfold lv; rw [if_neg (by omega)]
  rw [e4] at hn2
  show (if (1 : Int) < 1 then _ else _) ≤ n + 1
  rw [if_neg (by decide)]; omega
theorem PF.row {n : Nat} {o o2 : List It} {op : Int} {t : Tk} {L M : Int} (h : PF n L o) (h2 : PF n M o2) (hop : (op = 16 ∧ L = 3 ∧ M = 4) ∨ (op = 17 ∧ L = 2 ∧ M = 3)) : PF n L (o ++ o2 ++ [item op t]) := by
  obtain ⟨f, e, hn, hg⟩ := h
  obtain ⟨g, e2, hn2, hg2⟩ := h2
  have ho : arN (item op t).op = 2 := by show arN op = 2; rcases hop with ⟨rfl, _⟩ | ⟨rfl, _⟩ <;> rfl
  refine ⟨.two (item op t) ho f g, by show f.flat ++ g.flat ++ _ = _; rw [e, e2], ?_, GoodL (GoodL hg hg2) (GoodL.one (item_goodI (by omega)))⟩
  have e3 : needF (.two (item op t) ho f g) = max (lv L (tightN f.op) (needF f)) (lv M (tightN g.op) (needF g)) := by
    rcases hop with ⟨rfl, rfl, rfl⟩ | ⟨rfl, rfl, rfl⟩
    · rw [needF, if_pos (by rfl)]
    · rw [needF, if_neg (by show ¬ (17 : Int) = 16; decide), if_pos (by rfl)]
  have e4 : tightN op = L := by rcases hop with ⟨rfl, rfl, _⟩ | ⟨rfl, rfl, _⟩ <;> rfl
  show lv L (tightN op) (needF (.two (item op t) ho f g)) ≤ n
  rw [e3, e4]
  unfold lv at hn hn2 ⊢
  rw [if_neg (by omega)]; omega

def PFs (n : Nat) (L : Int) (one : Int → PR) : Prop := ∀ i o a, one i = .ok o a → PF n L o
theorem rowP_F {T : List Tk} {n : Nat} {one : Int → PR} {wd : ByteArray} {op : Int} {L M : Int} (hop : (op = 16 ∧ L = 3 ∧ M = 4) ∨ (op = 17 ∧ L = 2 ∧ M = 3)) (h : PFs n M one) : ∀ (k : Nat) (i : Int) (out o : List It) (a : Int), PF n L out → rowP T one wd op k i out = .ok o a → PF n L o
  | 0, i, out, o, a, hp, he => by
    simp only [rowP, PR.ok.injEq] at he
    rw [← he.1]; exact hp
  | k + 1, i, out, o, a, hp, he => by
    rw [rowP] at he
    split at he
    · obtain ⟨o1, b, h1, he⟩ := also_ok he
      exact rowP_F hop h k _ _ _ _ (hp.row (h _ _ _ h1) hop) he
    · simp only [PR.ok.injEq] at he
      rw [← he.1]; exact hp
theorem rowsP_F {T : List Tk} {n : Nat} {one : Int → PR} {wd : ByteArray} {op : Int} {L M : Int} (hop : (op = 16 ∧ L = 3 ∧ M = 4) ∨ (op = 17 ∧ L = 2 ∧ M = 3)) (h : PFs n M one) : PFs n L (rowsP T one wd op) := by
  intro i o a he
  unfold rowsP at he
  obtain ⟨o1, b, h1, he⟩ := also_ok he
  exact rowP_F hop h _ _ _ _ _ ((h _ _ _ h1).mono (by omega)) he
theorem tempN_range (s : ByteArray) : tempN s = 0 ∨ (19 ≤ tempN s ∧ tempN s ≤ 24) := by
  unfold tempN
  repeat' split
  all_goals omega
theorem untilP_F {T : List Tk} {n : Nat} {form : Int → PR} (h : PFs n 1 form) {op i : Int} (hop : op = 25 ∨ op = 26) {o : List It} {a : Int} (he : untilP T form op i = .ok o a) : PF (n + 1) 4 o := by
  unfold untilP at he
  obtain ⟨h1, he⟩ := need_ok he
  obtain ⟨o1, b, hf, he⟩ := also_ok he
  obtain ⟨h2, he⟩ := need_ok he
  obtain ⟨o2, d, hf2, he⟩ := also_ok he
  obtain ⟨h3, he⟩ := need_ok he
  simp only [PR.ok.injEq] at he
  obtain ⟨rfl, _⟩ := he
  exact (h _ _ _ hf).until (h _ _ _ hf2) hop
theorem signP_F {T : List Tk} (hT : ∀ x ∈ T, TkOK x) {n : Nat} {sg form : Int → PR} (hs : PFs n 4 sg) (hf : PFs n 1 form) : PFs (n + 1) 4 (signP T true sg form) := by
  intro i o a he
  unfold signP at he
  split at he
  · obtain ⟨o1, b, h2, he⟩ := also_ok he
    obtain ⟨h3, he⟩ := need_ok he
    simp only [PR.ok.injEq] at he
    obtain ⟨rfl, _⟩ := he
    exact (hf _ _ _ h2).brk
  split at he
  · exact compP_F hT n he
  split at he
  · obtain ⟨o1, b, h2, he⟩ := also_ok he
    simp only [PR.ok.injEq] at he
    obtain ⟨rfl, _⟩ := he
    exact (hs _ _ _ h2).one (.inl rfl)
  split at he
  · cases he
  split at he
  · exact untilP_F hf (.inl rfl) he
  split at he
  · exact untilP_F hf (.inr rfl) he
  split at he
  · exact atomP_F hT n he
  · rename_i ht
    obtain ⟨o1, b, h2, he⟩ := also_ok he
    simp only [PR.ok.injEq] at he
    obtain ⟨rfl, _⟩ := he
    have := tempN_range (tkAt T i).text
    exact (hs _ _ _ h2).one (.inr (by omega))
theorem formP_F {T : List Tk} {n : Nat} {sg form : Int → PR} (hs : PFs (n + 1) 4 sg) (hf : PFs n 1 form) : PFs (n + 1) 1 (formP T sg form) := by
  intro i o a he
  unfold formP at he
  obtain ⟨o1, b, h1, he⟩ := also_ok he
  have g1 := rowsP_F (T := T) (wd := wOr) (.inr ⟨rfl, rfl, rfl⟩) (rowsP_F (T := T) (wd := wAnd) (.inl ⟨rfl, rfl, rfl⟩) hs) _ _ _ h1
  split at he
  · obtain ⟨o2, c, h2, he⟩ := also_ok he
    simp only [PR.ok.injEq] at he
    obtain ⟨rfl, _⟩ := he
    exact g1.imp (hf _ _ _ h2)
  · simp only [PR.ok.injEq] at he
    obtain ⟨rfl, _⟩ := he
    exact g1.mono (by decide)
theorem both_F {T : List Tk} (hT : ∀ x ∈ T, TkOK x) : ∀ n, PFs n 4 (bothP T true n).1 ∧ PFs n 1 (bothP T true n).2
  | 0 => ⟨fun i o a h => (by have h : badP T i 5 = .ok o a := h; cases h), fun i o a h => (by have h : badP T i 5 = .ok o a := h; cases h)⟩
  | n + 1 => by
    obtain ⟨h1, h2⟩ := both_F hT n
    have h3 := signP_F hT h1 h2
    exact ⟨h3, formP_F h3 h2⟩

end Go.Proofs.YthhjepgcbfmfeaaGreatDoor

namespace Go.Proofs.YthhjepgcbfmfeaaGreatDoor
open Go.RowKit

/-- block b holds these cells -/
def Blk (w : World) (b : Nat) (cs : Array Value) (t : TypeId) : Prop := w.heap[b]? = some (.cells cs t (0, 0))
theorem Blk.new (w : World) (cs : Array Value) (t : TypeId) : Blk (w.alloc (.cells cs t)) w.heap.size cs t := heap_alloc_new w _
theorem Blk.lt {w : World} {b : Nat} {cs : Array Value} {t : TypeId} (h : Blk w b cs t) : b < w.heap.size := (Array.getElem?_eq_some_iff.1 h).1
theorem Blk.keep {w w' : World} {b : Nat} {cs : Array Value} {t : TypeId} (h : Blk w b cs t) (hb : Below w.heap.size w w') : Blk w' b cs t := (hb.block b h.lt).trans h
theorem Blk.low {w w' : World} {b B : Nat} {cs : Array Value} {t : TypeId} (h : Blk w b cs t) (hb : Below B w w') (hB : b < B) : Blk w' b cs t := (hb.block b hB).trans h
theorem Blk.drew {w : World} {b : Nat} {cs : Array Value} {t : TypeId} (h : Blk w b cs t) : Blk w.drew b cs t := h
theorem Blk.drewN {w : World} {b : Nat} {cs : Array Value} {t : TypeId} (h : Blk w b cs t) (n : Nat) : Blk (w.drewN n) b cs t := h
theorem Blk.alloc {w : World} {b : Nat} {cs : Array Value} {t : TypeId} (h : Blk w b cs t) (o : Obj) : Blk (w.alloc o) b cs t := (Below.heap_alloc _ _ _ h.lt).trans h
theorem Blk.grown {w w' : World} {b : Nat} {cs : Array Value} {t : TypeId} {row : Option Nat} (h : Blk w b cs t) (hg : w.grownBy w' row) (hne : row ≠ some b) : Blk w' b cs t := (hg.block b h.lt (Ne.symm hne)).trans h
theorem Blk.other {w : World} {b g j : Nat} {cs : Array Value} {t : TypeId} (h : Blk w b cs t) (hne : b ≠ g) (u : Value) : Blk (w.setCell ⟨g, j, none⟩ u) b cs t := (Below.heap_setCell _ _ _ _ (by show b ≠ g; exact hne)).trans h
theorem Blk.cell {w : World} {b : Nat} {cs : Array Value} {t : TypeId} (h : Blk w b cs t) {i : Nat} {v : Value} (hv : cs[i]? = some v) : w.cell? ⟨b, i, none⟩ = some v := by
  unfold Blk at h; simp [World.cell?, h, hv]
theorem Blk.free {w : World} {b : Nat} {cs : Array Value} {t : TypeId} (h : Blk w b cs t) (i : Nat) : w.frozen? ⟨b, i, none⟩ = false := by
  unfold Blk at h; simp [World.frozen?, h]
theorem Blk.store {w : World} {b : Nat} {cs : Array Value} {t : TypeId} (h : Blk w b cs t) (j : Nat) (u : Value) : Blk (w.setCell ⟨b, j, none⟩ u) b (cs.set! j u) t := heap_setCell_same w b j _ _ u h
theorem Blk.two {w : World} {b : Nat} {x y : Value} {t : TypeId} (h : Blk w b #[x, y] t) : w.cell? ⟨b, 0, none⟩ = some x ∧ w.cell? ⟨b, 1, none⟩ = some y := ⟨h.cell rfl, h.cell rfl⟩
theorem Blk.put2 {w : World} {b : Nat} {x y : Value} {t : TypeId} (h : Blk w b #[x, y] t) (u v : Value) : Blk ((w.setCell ⟨b, 0, none⟩ u).setCell ⟨b, 1, none⟩ v) b #[u, v] t := (h.store 0 u).store 1 v
theorem Blk.over2 {w : World} {b g : Nat} {cs : Array Value} {t : TypeId} (h : Blk w b cs t) (hne : b ≠ g) (u v : Value) : Blk ((w.setCell ⟨g, 0, none⟩ u).setCell ⟨g, 1, none⟩ v) b cs t := (h.other hne u).other hne v
theorem Blk.nine {w : World} {b : Nat} {a0 a1 a2 a3 a4 a5 a6 a7 a8 : Value} {t : TypeId} (h : Blk w b #[a0, a1, a2, a3, a4, a5, a6, a7, a8] t) :
    w.cell? ⟨b, 0, none⟩ = some a0 ∧ w.cell? ⟨b, 1, none⟩ = some a1 ∧ w.cell? ⟨b, 2, none⟩ = some a2 ∧ w.cell? ⟨b, 3, none⟩ = some a3 ∧ w.cell? ⟨b, 4, none⟩ = some a4 ∧ w.cell? ⟨b, 5, none⟩ = some a5 ∧ w.cell? ⟨b, 6, none⟩ = some a6 ∧ w.cell? ⟨b, 7, none⟩ = some a7 ∧ w.cell? ⟨b, 8, none⟩ = some a8 :=
  ⟨h.cell rfl, h.cell rfl, h.cell rfl, h.cell rfl, h.cell rfl, h.cell rfl, h.cell rfl, h.cell rfl, h.cell rfl⟩

end Go.Proofs.YthhjepgcbfmfeaaGreatDoor

namespace Go.Proofs.YthhjepgcbfmfeaaGreatDoor
open Go.RowKit Go.Sort

def signsT : ByteArray := ⟨#[116, 114, 117, 101, 32, 102, 97, 108, 115, 101, 32, 60, 32, 60, 61, 32, 62, 32, 62, 61, 32, 61, 32, 33, 61, 32, 111, 112, 101, 110, 32, 100, 111, 110, 101, 32, 99, 97, 110, 32, 100, 105, 100, 32, 99, 111, 109, 112, 108, 101, 116, 101, 32, 115, 116, 117, 99, 107, 32, 110, 111, 116, 32, 97, 110, 100, 32, 111, 114, 32, 105, 109, 112, 108, 105, 101, 115, 32, 65, 88, 32, 69, 88, 32, 65, 70, 32, 69, 70, 32, 65, 71, 32, 69, 71, 32, 65, 32, 69]⟩
theorem signsT_size : signsT.size < 4294967281 := by decide +kernel
theorem signsT_ascii : ∀ (j : Nat) b, signsT.data.toList[j]? = some b → b.toNat < 128 := by
  have h : ∀ b ∈ signsT.data.toList, b.toNat < 128 := by decide +kernel
  exact fun j b hj => h b (List.mem_of_getElem? hj)
theorem signsT_fields : Lib.fields signsT.data.toList = signsL.map (fun s => s.data.toList) := by decide +kernel
theorem signs_vals : ((Lib.fields signsT.data.toList).map fun l => Value.string ⟨l.toArray⟩) = signsL.map Value.string := by
  rw [signsT_fields, List.map_map]
  refine List.map_congr_left fun s _ => ?_
  show Value.string ⟨s.data.toList.toArray⟩ = _
  rw [Array.toArray_toList]
theorem signs_len : (Lib.fields signsT.data.toList).length = 26 := by rw [signsT_fields]; rfl
theorem signB_at {k : Nat} (h : k < 26) : (signsL.map Value.string)[k]? = some (.string (signB ((k : Int) + 1))) := by
  unfold signB
  rw [if_neg (by omega), show ((k : Int) + 1 - 1).toNat = k by omega]
  rw [List.getElem?_map, List.getElem?_eq_getElem (show k < signsL.length from h)]
  rfl
theorem signB_out {op : Int} (h : op < 1 ∨ 26 < op) : signB op = nil8 := by unfold signB; rw [if_pos h]

set_option maxRecDepth 100000 in
set_option maxHeartbeats 1000000 in
theorem sh_sign_any {w : World} (ht : Tabs w) (op : Int) :
    Calls Tryz.prog 19 #[.int .i64 op] w fun e w' => e = .returned (.string (signB op)) ∧ Below w.heap.size w w' := by
  have HF := Lib.hid (Tryz.strings_Fields signsT w signsT_size signsT_ascii ht.spc)
  rw [signs_vals, signs_len] at HF
  obtain ⟨W, hW⟩ : ∃ W, w.alloc (.cells (signsL.map Value.string).toArray 9) = W := ⟨_, rfl⟩
  rw [hW] at HF
  have HB : Hid (Below w.heap.size w W) := by unfold Hid; rw [← hW]; exact (Below.refl _ _).alloc (Nat.le_refl _) _
  rcases (show op < 1 ∨ (∃ k : Nat, k < 26 ∧ op = (k : Int) + 1) ∨ 26 < op by
    rcases (show op < 1 ∨ (1 ≤ op ∧ op ≤ 26) ∨ 26 < op by omega) with h | h | h
    · exact .inl h
    · exact .inr (.inl ⟨(op - 1).toNat, by omega, by omega⟩)
    · exact .inr (.inr h)) with h | ⟨k, hk, rfl⟩ | h
  · have HS := Lib.hid (signB_out (.inl h))
    have h1 : decide (op < 1) = true := decide_eq_true h
    rw [HS.out]
    clear h ht hW
    go_enter Tryz.func19, Tryz.ntmps19
    go_wp2_with fail
    refine HF.out.mono ?_
    rintro e w2 ⟨rfl, rfl⟩
    go_wp2
    go_ret
    exact ⟨rfl, HB.out⟩
  · have hc : W.cell? ⟨w.heap.size, k, none⟩ = some (.string (signB ((k : Int) + 1))) := by
      rw [← hW, World.cell?_alloc_new]
      have := signB_at hk
      simpa using this
    have h1 : ¬ ((k : Int) + 1 < 1) := by omega
    have h2 : ¬ (26 < (k : Int) + 1) := by omega
    clear ht hW
    go_enter Tryz.func19, Tryz.ntmps19
    go_wp2_with fail
    refine HF.out.mono ?_
    rintro e w2 ⟨rfl, rfl⟩
    go_wp2
    go_ret
    exact ⟨rfl, HB.out⟩
  · have HS := Lib.hid (signB_out (.inr h))
    have h1 : decide (op < 1) = false := decide_eq_false (by omega)
    have h2 : (26 : Int) < op := h
    rw [HS.out]
    clear ht hW h
    go_enter Tryz.func19, Tryz.ntmps19
    go_wp2_with fail
    refine HF.out.mono ?_
    rintro e w2 ⟨rfl, rfl⟩
    go_wp2
    go_ret
    exact ⟨rfl, HB.out⟩

theorem below_print (w : World) (k : Nat) (os : Array Obj) : Below w.heap.size w (grow (w.drewN k) os) := Lib.below_grow _ w (Nat.le_refl _) k os
set_option maxHeartbeats 1000000 in
theorem print_any {w : World} (ht : Tabs w) (n : Int) (h0 : -9223372036854775808 ≤ n) (h1 : n ≤ 9223372036854775807) :
    Calls Tryz.prog 50 #[.int .i64 n] w fun e w' => e = .returned (.string ⟨(Lib.itoa n).toArray⟩) ∧ Below w.heap.size w w' := by
  have HF := Lib.hid (Tryz.strconv_FormatInt_10 n h0 h1 w ht.pow)
  clear ht
  go_enter Tryz.func50, Tryz.ntmps50
  go_wp2_with fail
  refine HF.out.mono ?_
  rintro e w2 ⟨rfl, k, os, rfl⟩
  have HB := Lib.hid (below_print w k os)
  go_wp2
  go_ret
  exact ⟨rfl, HB.out⟩

set_option maxRecDepth 100000 in
set_option maxHeartbeats 1000000 in
theorem sh_word_any {w : World} (ht : Tabs w) (n : ByteArray) (k : Int) (h0 : -9223372036854775808 ≤ k) (h1 : k ≤ 9223372036854775807) (hs : n.size ≤ 140737488351232) :
    Calls Tryz.prog 30 #[.agg #[.string n, .int .i64 k]] w fun e w' => e = .returned (.tuple #[.string (wordTx n k), .bool (wordNm n)]) ∧ Below w.heap.size w w' := by
  have HT := Lib.hid (ht.alloc (.cells #[.string n, .int .i64 k] 37))
  have hb0 : Below w.heap.size w (w.alloc (.cells #[.string n, .int .i64 k] 37)) := (Below.refl _ w).alloc (Nat.le_refl _) _
  have HB0 := Lib.hid hb0
  have he := empty_list n
  clear ht hb0
  by_cases hz : n.size = 0
  · rw [decide_eq_true hz] at he
    have HW : Hid (wordTx n k = ⟨(Lib.itoa k).toArray⟩ ∧ wordNm n = true) := by unfold Hid wordTx wordNm; rw [if_pos hz, decide_eq_true hz]; exact ⟨rfl, rfl⟩
    rw [HW.out.1, HW.out.2]
    have HP := Lib.hid (print_any HT.out k h0 h1)
    clear hz
    go_enter Tryz.func30, Tryz.ntmps30
    go_wp2_with fail
    refine HP.out.mono ?_
    rintro e w2 ⟨rfl, hb2⟩
    have HB2 := Lib.hid (HB0.out.trans (hb2.mono HB0.out.size))
    clear hb2
    go_wp2
    go_ret2
    exact ⟨rfl, HB2.out⟩
  · rw [decide_eq_false hz] at he
    have HW : Hid (wordTx n k = n ∧ wordNm n = nameOK n) := by unfold Hid wordTx wordNm; rw [if_neg hz, decide_eq_false hz]; exact ⟨rfl, rfl⟩
    rw [HW.out.1, HW.out.2]
    have HP := Lib.hid (fun W (hm : MaxCell W) => name_yes n W hm hs)
    clear hz
    go_enter Tryz.func30, Tryz.ntmps30
    go_upto_region 3 with fail
    obtain ⟨W, hW⟩ : ∃ W, w.alloc (.cells #[.string n, .int .i64 k] 37) = W := ⟨_, rfl⟩
    have hk0 : Blk W w.heap.size #[.string n, .int .i64 k] 37 := by rw [← hW]; exact Blk.new _ _ _
    rw [hW] at HT HB0 ⊢
    have HT2 := Lib.hid (show MaxCell W.drew from HT.out.mx)
    have HB2 := Lib.hid (HB0.out.drew)
    have HK2 := Lib.hid (hk0.drew)
    have c0 := hk0.cell (i := 0) rfl
    have c1 := hk0.drew.cell (i := 0) rfl
    clear hW hk0
    go_wp2
    go_region_held3 (fun w' => w'.cell? ⟨w.heap.size, 0, none⟩ = some (.string n)) (first | assumption | go_keep)
      (first | (go_simp; go_at_call 31; (with_reducible refine (HP.out _ HT2.out).mono ?_); rintro e w5 ⟨rfl, hb5⟩; have HB5 := Lib.hid (HB2.out.trans (hb5.mono HB2.out.size)); have q5 := (HK2.out.keep hb5).cell (i := 0) rfl; clear hb5) | (trace_state; fail))
    all_goals
      go_wp2
      go_ret2
      exact ⟨rfl, HB5.out⟩

end Go.Proofs.YthhjepgcbfmfeaaGreatDoor
