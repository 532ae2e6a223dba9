/- Plain: a formula is read in brackets as it is read alone, one deeper. -/
import Derived.Test.YthhjepgcbfmfeaaGreatDoorSb15
import Derived.Test.YthhjepgcbfmfeaaGreatDoorSb22

namespace Go.Proofs.YthhjepgcbfmfeaaGreatDoor
open Go.RowKit

/-- tokens that differ in places alone -/
def Twin (x y : Tk) : Prop := y.kind = x.kind ∧ y.text = x.text ∧ y.num = x.num
/-- U holds T's tokens but the last ones, each one place further; what stands there behind them is none but a closing bracket or the end -/
structure InBr (T U : List Tk) : Prop where
  low : ∀ i : Int, (tkAt T i).kind ≠ 5 → Twin (tkAt T i) (tkAt U (i + 1))
  high : ∀ i : Int, (tkAt T i).kind = 5 → (tkAt U (i + 1)).kind = 4 ∨ (tkAt U (i + 1)).kind = 5
  len : T.length ≤ U.length

theorem InBr.is {T U : List Tk} (h : InBr T U) {i kind : Int} {s : ByteArray} (hk : kind ≠ 5) (hi : isTk T i kind s = true) : isTk U (i + 1) kind s = true := by
  have hn := isTk_not hi hk
  obtain ⟨a, b, c⟩ := h.low i hn
  unfold isTk at hi ⊢
  rw [a, b]; exact hi
theorem InBr.not {T U : List Tk} (h : InBr T U) {i kind : Int} {s : ByteArray} (hk : kind ≠ 5) (hk4 : kind ≠ 4) (hi : isTk T i kind s = false) : isTk U (i + 1) kind s = false := by
  by_cases hn : (tkAt T i).kind = 5
  · have := h.high i hn
    unfold isTk
    have : ¬ (tkAt U (i + 1)).kind = kind := by omega
    simp [this]
  · obtain ⟨a, b, c⟩ := h.low i hn
    unfold isTk at hi ⊢
    rw [a, b]; exact hi

def barL (o : List It) : List It := o.map It.bare
/-- what f reads in T, g reads in U, one place further, or it stands too deep -/
def RelB (f g : Int → PR) : Prop := ∀ i o a, f i = .ok o a → (∃ o', g (i + 1) = .ok o' (a + 1) ∧ barL o' = barL o) ∨ ∃ l c, g (i + 1) = .bad 5 l c

theorem okB {o o' : List It} {a a' : Int} (h : PR.ok o a = .ok o' a') : o = o' ∧ a = a' := by simpa using h
theorem barL_app (a b : List It) : barL (a ++ b) = barL a ++ barL b := by simp [barL]
theorem barL_item {op : Int} {x y : Tk} : barL [item op x] = barL [item op y] := rfl

theorem rowP_B {T U : List Tk} (hTU : InBr T U) {f g : Int → PR} (h : RelB f g) (hG : Good T f) (wd : ByteArray) (op : Int) : ∀ (k k' : Nat) (j : Int) (out out' o : List It) (a : Int), (T.length : Int) < j + k → k ≤ k' → barL out' = barL out → rowP T f wd op k j out = .ok o a →
    (∃ o', rowP U g wd op k' (j + 1) out' = .ok o' (a + 1) ∧ barL o' = barL o) ∨ ∃ l c, rowP U g wd op k' (j + 1) out' = .bad 5 l c
  | 0, k', j, out, out', o, a, hj, _, hb, he => by
    obtain ⟨rfl, rfl⟩ := okB he
    have hn : isTk T j 2 wd = false := by
      unfold isTk tkAt
      rw [if_neg (by omega), List.getElem?_eq_none (by omega)]
      rfl
    have hu := hTU.not (by decide) (by decide) hn
    refine .inl ⟨out', ?_, hb⟩
    cases k' with
    | zero => rfl
    | succ k' => rw [rowP, hu]; rfl
  | k + 1, k', j, out, out', o, a, hj, hk, hb, he => by
    obtain ⟨k', rfl⟩ : ∃ q, k' = q + 1 := ⟨k' - 1, by omega⟩
    rw [rowP] at he ⊢
    cases hq : isTk T j 2 wd with
    | false =>
      rw [hq] at he
      rw [hTU.not (by decide) (by decide) hq]
      have he : PR.ok out j = .ok o a := he
      obtain ⟨rfl, rfl⟩ := okB he
      exact .inl ⟨out', rfl, hb⟩
    | true =>
      rw [hq, if_pos rfl] at he
      rw [hTU.is (by decide) hq, if_pos rfl]
      obtain ⟨o1, a1, he1, he2⟩ := also_ok he
      have g1 := hG _ _ _ he1
      rcases h _ _ _ he1 with ⟨o1', e1, b1⟩ | ⟨l, c, e1⟩
      · rw [e1]
        exact rowP_B hTU h hG wd op k k' a1 _ _ o a (by omega) (by omega) (by rw [barL_app, barL_app, barL_app, barL_app, hb, b1]; rfl) he2
      · rw [e1]; exact .inr ⟨l, c, rfl⟩
theorem rowsP_B {T U : List Tk} (hTU : InBr T U) {f g : Int → PR} (h : RelB f g) (hG : Good T f) (wd : ByteArray) (op : Int) : RelB (rowsP T f wd op) (rowsP U g wd op) := by
  intro i o a he
  obtain ⟨o1, a1, he1, he2⟩ := also_ok he
  have g1 := hG _ _ _ he1
  unfold rowsP
  rcases h _ _ _ he1 with ⟨o1', e1, b1⟩ | ⟨l, c, e1⟩
  · rw [e1]
    have hl := hTU.len
    exact rowP_B hTU h hG wd op _ (U.length + 1) a1 _ _ o a (by omega) (by omega) b1 he2
  · rw [e1]; exact .inr ⟨l, c, rfl⟩

theorem twin_comp {T U : List Tk} (hTU : InBr T U) {i : Int} (h : compN T i ≠ 0) : compN U (i + 1) = compN T i := by
  have hk := comp_sign h
  obtain ⟨a, b, c⟩ := hTU.low i (by omega)
  unfold compN
  rw [a, b]
theorem twin_word {x y : Tk} (h : Twin x y) : isWord y = isWord x ∧ wordName y = wordName x ∧ wordNum y = wordNum x := by
  obtain ⟨a, b, c⟩ := h
  unfold isWord wordName wordNum
  rw [a, b, c]
  exact ⟨rfl, rfl, rfl⟩
theorem compP_B {T U : List Tk} (hTU : InBr T U) : RelB (compP T) (compP U) := by
  intro i o a he
  unfold compP at he ⊢
  split at he
  · rename_i h1
    have t1 := twin_word (hTU.low i (isWord_kind h1))
    split at he
    · cases he
    · rename_i h2
      split at he
      · rename_i h3
        have t3 := twin_word (hTU.low (i + 2) (isWord_kind h3))
        have e2 : compN U (i + 1 + 1) = compN T (i + 1) := twin_comp hTU h2
        rw [if_pos (by rw [t1.1]; exact h1), if_neg (by rw [e2]; exact h2), show i + 1 + 2 = i + 2 + 1 by omega, if_pos (by rw [t3.1]; exact h3), e2, t1.2.1, t1.2.2, t3.2.1, t3.2.2]
        obtain ⟨rfl, rfl⟩ := okB he
        rw [show i + 1 + 3 = i + 3 + 1 by omega]
        exact .inl ⟨_, rfl, rfl⟩
      · cases he
  · cases he
theorem namedP_B {T U : List Tk} (hTU : InBr T U) (op i : Int) (o : List It) (a : Int) (he : namedP T i op = .ok o a) : ∃ o', namedP U (i + 1) op = .ok o' (a + 1) ∧ barL o' = barL o := by
  unfold namedP at he ⊢
  split at he
  · rename_i h1
    obtain ⟨t1, t2, t3⟩ := hTU.low (i + 1) (by omega)
    obtain ⟨rfl, rfl⟩ := okB he
    rw [if_pos (by rw [t1]; exact h1), t2]
    rw [show i + 1 + 2 = i + 2 + 1 by omega]
    exact ⟨_, rfl, rfl⟩
  · cases he
theorem didP_B {T U : List Tk} (hTU : InBr T U) (i : Int) (o : List It) (a : Int) (he : didP T i = .ok o a) : ∃ o', didP U (i + 1) = .ok o' (a + 1) ∧ barL o' = barL o := by
  unfold didP at he ⊢
  split at he
  · rename_i h1
    obtain ⟨t1, t2, t3⟩ := hTU.low (i + 1) (by omega)
    split at he
    · rename_i h2
      obtain ⟨u1, u2, u3⟩ := hTU.low (i + 2) (by omega)
      obtain ⟨rfl, rfl⟩ := okB he
      rw [if_pos (by rw [t1]; exact h1), show i + 1 + 2 = i + 2 + 1 by omega, if_pos (by rw [u1]; exact h2), t2, u2]
      rw [show i + 1 + 3 = i + 3 + 1 by omega]
      exact ⟨_, rfl, rfl⟩
    · cases he
  · cases he
theorem atomP_B {T U : List Tk} (hTU : InBr T U) (prop : Bool) (i : Int) (hi : (tkAt T i).kind ≠ 5) (o : List It) (a : Int) (he : atomP T prop i = .ok o a) : ∃ o', atomP U prop (i + 1) = .ok o' (a + 1) ∧ barL o' = barL o := by
  obtain ⟨t1, t2, t3⟩ := hTU.low i hi
  have leaf : ∀ op : Int, PR.ok [item op (tkAt T i)] (i + 1) = .ok o a → ∃ o', PR.ok [item op (tkAt U (i + 1))] (i + 1 + 1) = .ok o' (a + 1) ∧ barL o' = barL o := fun op h => by
    obtain ⟨rfl, rfl⟩ := okB h; exact ⟨_, rfl, rfl⟩
  unfold atomP at he ⊢
  rw [t2]
  split at he
  · rename_i q; rw [if_pos q]; exact namedP_B hTU _ _ _ _ he
  rename_i q; rw [if_neg q]
  split at he
  · rename_i q; rw [if_pos q]; exact namedP_B hTU _ _ _ _ he
  rename_i q; rw [if_neg q]
  split at he
  · rename_i q; rw [if_pos q]; exact leaf _ he
  rename_i q; rw [if_neg q]
  split at he
  · rename_i q; rw [if_pos q]; exact leaf _ he
  rename_i q; rw [if_neg q]
  split at he
  · cases he
  rename_i q; rw [if_neg q]
  split at he
  · rename_i q; rw [if_pos q]; exact namedP_B hTU _ _ _ _ he
  rename_i q; rw [if_neg q]
  split at he
  · rename_i q; rw [if_pos q]; exact didP_B hTU _ _ _ he
  rename_i q; rw [if_neg q]
  split at he
  · rename_i q; rw [if_pos q]; exact leaf _ he
  rename_i q; rw [if_neg q]
  split at he
  · rename_i q; rw [if_pos q]; exact leaf _ he
  · cases he
theorem need_yes {T : List Tk} {i kind : Int} {s : ByteArray} {f : Int → PR} (h : isTk T i kind s = true) : needP T i kind s f = f (i + 1) := by unfold needP; rw [if_pos h]
theorem also_is (o : List It) (a : Int) (f : List It → Int → PR) : (PR.ok o a).also f = f o a := rfl
theorem untilP_B {T U : List Tk} (hTU : InBr T U) {f g : Int → PR} (h : RelB f g) (op i : Int) (o : List It) (a : Int) (he : untilP T f op i = .ok o a) :
    (∃ o', untilP U g op (i + 1) = .ok o' (a + 1) ∧ barL o' = barL o) ∨ ∃ l c, untilP U g op (i + 1) = .bad 5 l c := by
  unfold untilP at he ⊢
  obtain ⟨h1, he⟩ := need_ok he
  obtain ⟨o1, b, hf, he⟩ := also_ok he
  obtain ⟨h2, he⟩ := need_ok he
  obtain ⟨o2, d, hf2, he⟩ := also_ok he
  obtain ⟨h3, he⟩ := need_ok he
  obtain ⟨rfl, rfl⟩ := okB he
  rw [need_yes (hTU.is (by decide) h1)]
  rcases h _ _ _ hf with ⟨o1', e1, b1⟩ | ⟨l, c, e1⟩
  · rw [e1]
    simp only [also_is]
    rw [need_yes (hTU.is (by decide) h2)]
    rcases h _ _ _ hf2 with ⟨o2', e2, b2⟩ | ⟨l, c, e2⟩
    · rw [e2]
      simp only [also_is]
      rw [need_yes (hTU.is (by decide) h3)]
      exact .inl ⟨_, rfl, by rw [barL_app, barL_app, barL_app, barL_app, b1, b2]; rfl⟩
    · rw [e2]; exact .inr ⟨l, c, rfl⟩
  · rw [e1]; exact .inr ⟨l, c, rfl⟩
theorem signP_B {T U : List Tk} (hTU : InBr T U) {prop : Bool} {s1 s2 f1 f2 : Int → PR} (hs : RelB s1 s2) (hf : RelB f1 f2) : RelB (signP T prop s1 f1) (signP U prop s2 f2) := by
  intro i o a he
  unfold signP at he ⊢
  split at he
  · rename_i q
    rw [if_pos (hTU.is (by decide) q)]
    obtain ⟨o1, b, h1, h2⟩ := also_ok he
    obtain ⟨h3, h4⟩ := need_ok h2
    obtain ⟨rfl, rfl⟩ := okB h4
    rcases hf _ _ _ h1 with ⟨o1', e1, b1⟩ | ⟨l, c, e1⟩
    · rw [e1]
      simp only [also_is]
      rw [need_yes (hTU.is (by decide) h3)]
      exact .inl ⟨o1', rfl, b1⟩
    · rw [e1]; exact .inr ⟨l, c, rfl⟩
  rename_i q
  have hk : (tkAt T i).kind ≠ 5 := by
    split at he
    · unfold compP at he
      split at he
      · rename_i h1; exact isWord_kind h1
      · cases he
    · rename_i h2; omega
  obtain ⟨t1, t2, t3⟩ := hTU.low i hk
  have q' : ¬ isTk U (i + 1) 4 sOpen = true := by
    intro h; apply q; unfold isTk at h ⊢; rw [t1, t2] at h; exact h
  rw [if_neg q', t1, t2]
  split at he
  · rename_i q2; rw [if_pos q2]; exact compP_B hTU _ _ _ he
  rename_i q2; rw [if_neg q2]
  split at he
  · rename_i q3; rw [if_pos q3]
    obtain ⟨o1, b, h1, h2⟩ := also_ok he
    obtain ⟨rfl, rfl⟩ := okB h2
    rcases hs _ _ _ h1 with ⟨o1', e1, b1⟩ | ⟨l, c, e1⟩
    · rw [e1]; exact .inl ⟨_, rfl, by rw [barL_app, barL_app, b1]; rfl⟩
    · rw [e1]; exact .inr ⟨l, c, rfl⟩
  rename_i q3; rw [if_neg q3]
  split at he
  · cases he
  rename_i q4; rw [if_neg q4]
  split at he
  · rename_i q5; rw [if_pos q5]; exact untilP_B hTU hf _ _ _ _ he
  rename_i q5; rw [if_neg q5]
  split at he
  · rename_i q6; rw [if_pos q6]; exact untilP_B hTU hf _ _ _ _ he
  rename_i q6; rw [if_neg q6]
  split at he
  · rename_i q7; rw [if_pos q7]; exact .inl (atomP_B hTU prop i hk o a he)
  rename_i q7; rw [if_neg q7]
  obtain ⟨o1, b, h1, h2⟩ := also_ok he
  obtain ⟨rfl, rfl⟩ := okB h2
  rcases hs _ _ _ h1 with ⟨o1', e1, b1⟩ | ⟨l, c, e1⟩
  · rw [e1]; exact .inl ⟨_, rfl, by rw [barL_app, barL_app, b1]; rfl⟩
  · rw [e1]; exact .inr ⟨l, c, rfl⟩
theorem formP_B {T U : List Tk} (hTU : InBr T U) {s1 s2 f1 f2 : Int → PR} (hs : RelB s1 s2) (hG : Good T s1) (hf : RelB f1 f2) : RelB (formP T s1 f1) (formP U s2 f2) := by
  intro i o a he
  unfold formP at he ⊢
  obtain ⟨o1, b, h1, h2⟩ := also_ok he
  rcases rowsP_B hTU (rowsP_B hTU hs hG wAnd 16) (rowsP_good hG wAnd 16) wOr 17 _ _ _ h1 with ⟨o1', e1, b1⟩ | ⟨l, c, e1⟩
  · rw [e1]
    simp only [also_is]
    cases hq : isTk T b 2 wImplies with
    | true =>
      rw [hq, if_pos rfl] at h2
      rw [hTU.is (by decide) hq, if_pos rfl]
      obtain ⟨o2, d, h3, h4⟩ := also_ok h2
      obtain ⟨rfl, rfl⟩ := okB h4
      rcases hf _ _ _ h3 with ⟨o2', e2, b2⟩ | ⟨l, c, e2⟩
      · rw [e2]; exact .inl ⟨_, rfl, by rw [barL_app, barL_app, barL_app, barL_app, b1, b2]; rfl⟩
      · rw [e2]; exact .inr ⟨l, c, rfl⟩
    | false =>
      rw [hq] at h2
      rw [hTU.not (by decide) (by decide) hq]
      have h2 : PR.ok o1 b = .ok o a := h2
      obtain ⟨rfl, rfl⟩ := okB h2
      exact .inl ⟨o1', rfl, b1⟩
  · rw [e1]; exact .inr ⟨l, c, rfl⟩
theorem both_B {T U : List Tk} (hTU : InBr T U) (prop : Bool) : ∀ n, RelB (bothP T prop (n + 1)).1 (bothP U prop n).1 ∧ RelB (bothP T prop (n + 1)).2 (bothP U prop n).2
  | 0 => ⟨fun i o a _ => .inr ⟨_, _, rfl⟩, fun i o a _ => .inr ⟨_, _, rfl⟩⟩
  | n + 1 => by
    have ih := both_B hTU prop n
    have hs := signP_B hTU (prop := prop) ih.1 ih.2
    exact ⟨hs, formP_B hTU hs (both_good T prop (n + 2)).1 ih.2⟩

/-- a row of one formula, behind which neither word stands -/
theorem rowsP_one {U : List Tk} {g : Int → PR} {wd : ByteArray} {op i a : Int} {o : List It} (h : g i = .ok o a) (hn : isTk U a 2 wd = false) : rowsP U g wd op i = .ok o a := by
  unfold rowsP
  rw [h]
  show rowP U g wd op (U.length + 1) a o = _
  rw [rowP, hn]; rfl
theorem rowsP_bad {U : List Tk} {g : Int → PR} {wd : ByteArray} {op i e l c : Int} (h : g i = .bad e l c) : rowsP U g wd op i = .bad e l c := by
  unfold rowsP; rw [h]; rfl

/-- the whole formula in brackets -/
theorem read_B {T U : List Tk} (hTU : InBr T U) {prop : Bool} {o : List It} {a : Int} (ho : isTk U 0 4 sOpen = true) (hc : isTk U (a + 1) 4 sClose = true) (he : (tkAt U (a + 2)).kind = 5) (h : readP T prop 0 = .ok o a) :
    (∃ o', readP U prop 0 = .ok o' (a + 2) ∧ barL o' = barL o) ∨ ∃ l c, readP U prop 0 = .bad 5 l c := by
  have h1 : (bothP T prop 25).2 0 = .ok o a ∧ o.length ≤ 64 := by
    unfold readP at h
    cases hp : (bothP T prop 25).2 0 with
    | bad e l c => rw [hp] at h; cases h
    | ok o1 a1 =>
      rw [hp] at h
      dsimp only at h
      split at h
      · cases h
      · obtain ⟨rfl, rfl⟩ := okB h; exact ⟨rfl, by omega⟩
  have hn : ∀ wd, isTk U (a + 2) 2 wd = false := fun wd => by unfold isTk; rw [he]; rfl
  rcases (both_B hTU prop 24).2 _ _ _ h1.1 with ⟨o', e1, b1⟩ | ⟨l, c, e1⟩
  · have hs : (bothP U prop 25).1 0 = .ok o' (a + 2) := by
      show signP U prop _ _ 0 = _
      unfold signP
      rw [if_pos ho]
      rw [show (0 : Int) + 1 = 1 from rfl] at e1
      rw [show (0 : Int) + 1 = 1 from rfl, e1]
      show needP U (a + 1) 4 sClose _ = _
      rw [need_yes hc]
      show PR.ok o' (a + 1 + 1) = _
      rw [show a + 1 + 1 = a + 2 by omega]
    have hf : (bothP U prop 25).2 0 = .ok o' (a + 2) := by
      show formP U (bothP U prop 25).1 _ 0 = _
      unfold formP
      rw [rowsP_one (rowsP_one hs (hn _)) (hn _)]
      show (if isTk U (a + 2) 2 wImplies = true then _ else _) = _
      rw [hn]; rfl
    have hl : o'.length ≤ 64 := by
      have := congrArg List.length b1
      simp only [barL, List.length_map] at this
      omega
    refine .inl ⟨o', ?_, b1⟩
    unfold readP
    rw [hf]
    dsimp only
    rw [if_neg (by omega)]
  · have hs : (bothP U prop 25).1 0 = .bad 5 l c := by
      show signP U prop _ _ 0 = _
      unfold signP
      rw [if_pos ho, show (0 : Int) + 1 = 1 from rfl]
      rw [show (0 : Int) + 1 = 1 from rfl] at e1
      rw [e1]; rfl
    have hf : (bothP U prop 25).2 0 = .bad 5 l c := by
      show formP U (bothP U prop 25).1 _ 0 = _
      unfold formP
      rw [rowsP_bad (rowsP_bad hs)]; rfl
    refine .inr ⟨l, c, ?_⟩
    unfold readP
    rw [hf]

end Go.Proofs.YthhjepgcbfmfeaaGreatDoor
