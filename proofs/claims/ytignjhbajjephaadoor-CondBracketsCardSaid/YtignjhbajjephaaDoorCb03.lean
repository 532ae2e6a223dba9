/- Plain: a formula is read in brackets as it is read alone, one deeper. Plain: the tokens of a text in brackets, each on a line of its own. What Whole hands back, of a formula or of none. awake of warderlaw05. -/
import Derived.Test.YtignjhbajjephaaDoorCb01
import Derived.Test.YtignjhbajjephaaDoorCb02

namespace Go.Proofs.YtignjhbajjephaaDoor
open Go.RowKit

/-- tokens that differ in places alone -/
def Twin (x y : Tk) : Prop := y.kind = x.kind ∧ y.text = x.text ∧ y.num = x.num
/-- U holds T's tokens but the last ones, each one place further; what stands there behind them is none but a closing bracket or the end -/
structure InBr (T U : List Tk) : Prop where
  low : ∀ i : Int, (tkAt T i).kind ≠ 5 → Twin (tkAt T i) (tkAt U (i + 1))
  high : ∀ i : Int, (tkAt T i).kind = 5 → (tkAt U (i + 1)).kind = 4 ∨ (tkAt U (i + 1)).kind = 5
  len : T.length ≤ U.length

theorem InBr.is {T U : List Tk} (h : InBr T U) {i kind : Int} {s : ByteArray} (hk : kind ≠ 5) (hi : isTk T i kind s = true) : isTk U (i + 1) kind s = true := by
  have hn := isTk_not hi hk
  obtain ⟨a, b, c⟩ := h.low i hn
  unfold isTk at hi ⊢
  rw [a, b]; exact hi
theorem InBr.not {T U : List Tk} (h : InBr T U) {i kind : Int} {s : ByteArray} (hk : kind ≠ 5) (hk4 : kind ≠ 4) (hi : isTk T i kind s = false) : isTk U (i + 1) kind s = false := by
  by_cases hn : (tkAt T i).kind = 5
  · have := h.high i hn
    unfold isTk
    have : ¬ (tkAt U (i + 1)).kind = kind := by omega
    simp [this]
  · obtain ⟨a, b, c⟩ := h.low i hn
    unfold isTk at hi ⊢
    rw [a, b]; exact hi

def barL (o : List It) : List It := o.map It.bare
/-- what f reads in T, g reads in U, one place further, or it stands too deep -/
def RelB (f g : Int → PR) : Prop := ∀ i o a, f i = .ok o a → (∃ o', g (i + 1) = .ok o' (a + 1) ∧ barL o' = barL o) ∨ ∃ l c, g (i + 1) = .bad 5 l c

theorem okB {o o' : List It} {a a' : Int} (h : PR.ok o a = .ok o' a') : o = o' ∧ a = a' := by simpa using h
theorem barL_app (a b : List It) : barL (a ++ b) = barL a ++ barL b := by simp [barL]
theorem barL_item {op : Int} {x y : Tk} : barL [item op x] = barL [item op y] := rfl

theorem rowP_B {T U : List Tk} (hTU : InBr T U) {f g : Int → PR} (h : RelB f g) (hG : Good T f) (wd : ByteArray) (op : Int) : ∀ (k k' : Nat) (j : Int) (out out' o : List It) (a : Int), (T.length : Int) < j + k → k ≤ k' → barL out' = barL out → rowP T f wd op k j out = .ok o a →
    (∃ o', rowP U g wd op k' (j + 1) out' = .ok o' (a + 1) ∧ barL o' = barL o) ∨ ∃ l c, rowP U g wd op k' (j + 1) out' = .bad 5 l c
  | 0, k', j, out, out', o, a, hj, _, hb, he => by
    obtain ⟨rfl, rfl⟩ := okB he
    have hn : isTk T j 2 wd = false := by
      unfold isTk tkAt
      rw [if_neg (by omega), List.getElem?_eq_none (by omega)]
      rfl
    have hu := hTU.not (by decide) (by decide) hn
    refine .inl ⟨out', ?_, hb⟩
    cases k' with
    | zero => rfl
    | succ k' => rw [rowP, hu]; rfl
  | k + 1, k', j, out, out', o, a, hj, hk, hb, he => by
    obtain ⟨k', rfl⟩ : ∃ q, k' = q + 1 := ⟨k' - 1, by omega⟩
    rw [rowP] at he ⊢
    cases hq : isTk T j 2 wd with
    | false =>
      rw [hq] at he
      rw [hTU.not (by decide) (by decide) hq]
      have he : PR.ok out j = .ok o a := he
      obtain ⟨rfl, rfl⟩ := okB he
      exact .inl ⟨out', rfl, hb⟩
    | true =>
      rw [hq, if_pos rfl] at he
      rw [hTU.is (by decide) hq, if_pos rfl]
      obtain ⟨o1, a1, he1, he2⟩ := also_ok he
      have g1 := hG _ _ _ he1
      rcases h _ _ _ he1 with ⟨o1', e1, b1⟩ | ⟨l, c, e1⟩
      · rw [e1]
        exact rowP_B hTU h hG wd op k k' a1 _ _ o a (by omega) (by omega) (by rw [barL_app, barL_app, barL_app, barL_app, hb, b1]; rfl) he2
      · rw [e1]; exact .inr ⟨l, c, rfl⟩
theorem rowsP_B {T U : List Tk} (hTU : InBr T U) {f g : Int → PR} (h : RelB f g) (hG : Good T f) (wd : ByteArray) (op : Int) : RelB (rowsP T f wd op) (rowsP U g wd op) := by
  intro i o a he
  obtain ⟨o1, a1, he1, he2⟩ := also_ok he
  have g1 := hG _ _ _ he1
  unfold rowsP
  rcases h _ _ _ he1 with ⟨o1', e1, b1⟩ | ⟨l, c, e1⟩
  · rw [e1]
    have hl := hTU.len
    exact rowP_B hTU h hG wd op _ (U.length + 1) a1 _ _ o a (by omega) (by omega) b1 he2
  · rw [e1]; exact .inr ⟨l, c, rfl⟩

theorem twin_comp {T U : List Tk} (hTU : InBr T U) {i : Int} (h : compN T i ≠ 0) : compN U (i + 1) = compN T i := by
  have hk := comp_sign h
  obtain ⟨a, b, c⟩ := hTU.low i (by omega)
  unfold compN
  rw [a, b]
theorem twin_word {x y : Tk} (h : Twin x y) : isWord y = isWord x ∧ wordName y = wordName x ∧ wordNum y = wordNum x := by
  obtain ⟨a, b, c⟩ := h
  unfold isWord wordName wordNum
  rw [a, b, c]
  exact ⟨rfl, rfl, rfl⟩
theorem compP_B {T U : List Tk} (hTU : InBr T U) : RelB (compP T) (compP U) := by
  intro i o a he
  unfold compP at he ⊢
  split at he
  · rename_i h1
    have t1 := twin_word (hTU.low i (isWord_kind h1))
    split at he
    · cases he
    · rename_i h2
      split at he
      · rename_i h3
        have t3 := twin_word (hTU.low (i + 2) (isWord_kind h3))
        have e2 : compN U (i + 1 + 1) = compN T (i + 1) := twin_comp hTU h2
        rw [if_pos (by rw [t1.1]; exact h1), if_neg (by rw [e2]; exact h2), show i + 1 + 2 = i + 2 + 1 by omega, if_pos (by rw [t3.1]; exact h3), e2, t1.2.1, t1.2.2, t3.2.1, t3.2.2]
        obtain ⟨rfl, rfl⟩ := okB he
        rw [show i + 1 + 3 = i + 3 + 1 by omega]
        exact .inl ⟨_, rfl, rfl⟩
      · cases he
  · cases he
theorem namedP_B {T U : List Tk} (hTU : InBr T U) (op i : Int) (o : List It) (a : Int) (he : namedP T i op = .ok o a) : ∃ o', namedP U (i + 1) op = .ok o' (a + 1) ∧ barL o' = barL o := by
  unfold namedP at he ⊢
  split at he
  · rename_i h1
    obtain ⟨t1, t2, t3⟩ := hTU.low (i + 1) (by omega)
    obtain ⟨rfl, rfl⟩ := okB he
    rw [if_pos (by rw [t1]; exact h1), t2]
    rw [show i + 1 + 2 = i + 2 + 1 by omega]
    exact ⟨_, rfl, rfl⟩
  · cases he
theorem didP_B {T U : List Tk} (hTU : InBr T U) (i : Int) (o : List It) (a : Int) (he : didP T i = .ok o a) : ∃ o', didP U (i + 1) = .ok o' (a + 1) ∧ barL o' = barL o := by
  unfold didP at he ⊢
  split at he
  · rename_i h1
    obtain ⟨t1, t2, t3⟩ := hTU.low (i + 1) (by omega)
    split at he
    · rename_i h2
      obtain ⟨u1, u2, u3⟩ := hTU.low (i + 2) (by omega)
      obtain ⟨rfl, rfl⟩ := okB he
      rw [if_pos (by rw [t1]; exact h1), show i + 1 + 2 = i + 2 + 1 by omega, if_pos (by rw [u1]; exact h2), t2, u2]
      rw [show i + 1 + 3 = i + 3 + 1 by omega]
      exact ⟨_, rfl, rfl⟩
    · cases he
  · cases he
theorem atomP_B {T U : List Tk} (hTU : InBr T U) (prop : Bool) (i : Int) (hi : (tkAt T i).kind ≠ 5) (o : List It) (a : Int) (he : atomP T prop i = .ok o a) : ∃ o', atomP U prop (i + 1) = .ok o' (a + 1) ∧ barL o' = barL o := by
  obtain ⟨t1, t2, t3⟩ := hTU.low i hi
  have leaf : ∀ op : Int, PR.ok [item op (tkAt T i)] (i + 1) = .ok o a → ∃ o', PR.ok [item op (tkAt U (i + 1))] (i + 1 + 1) = .ok o' (a + 1) ∧ barL o' = barL o := fun op h => by
    obtain ⟨rfl, rfl⟩ := okB h; exact ⟨_, rfl, rfl⟩
  unfold atomP at he ⊢
  rw [t2]
  split at he
  · rename_i q; rw [if_pos q]; exact namedP_B hTU _ _ _ _ he
  rename_i q; rw [if_neg q]
  split at he
  · rename_i q; rw [if_pos q]; exact namedP_B hTU _ _ _ _ he
  rename_i q; rw [if_neg q]
  split at he
  · rename_i q; rw [if_pos q]; exact leaf _ he
  rename_i q; rw [if_neg q]
  split at he
  · rename_i q; rw [if_pos q]; exact leaf _ he
  rename_i q; rw [if_neg q]
  split at he
  · cases he
  rename_i q; rw [if_neg q]
  split at he
  · rename_i q; rw [if_pos q]; exact namedP_B hTU _ _ _ _ he
  rename_i q; rw [if_neg q]
  split at he
  · rename_i q; rw [if_pos q]; exact didP_B hTU _ _ _ he
  rename_i q; rw [if_neg q]
  split at he
  · rename_i q; rw [if_pos q]; exact leaf _ he
  rename_i q; rw [if_neg q]
  split at he
  · rename_i q; rw [if_pos q]; exact leaf _ he
  · cases he
theorem need_yes {T : List Tk} {i kind : Int} {s : ByteArray} {f : Int → PR} (h : isTk T i kind s = true) : needP T i kind s f = f (i + 1) := by unfold needP; rw [if_pos h]
theorem also_is (o : List It) (a : Int) (f : List It → Int → PR) : (PR.ok o a).also f = f o a := rfl
theorem untilP_B {T U : List Tk} (hTU : InBr T U) {f g : Int → PR} (h : RelB f g) (op i : Int) (o : List It) (a : Int) (he : untilP T f op i = .ok o a) :
    (∃ o', untilP U g op (i + 1) = .ok o' (a + 1) ∧ barL o' = barL o) ∨ ∃ l c, untilP U g op (i + 1) = .bad 5 l c := by
  unfold untilP at he ⊢
  obtain ⟨h1, he⟩ := need_ok he
  obtain ⟨o1, b, hf, he⟩ := also_ok he
  obtain ⟨h2, he⟩ := need_ok he
  obtain ⟨o2, d, hf2, he⟩ := also_ok he
  obtain ⟨h3, he⟩ := need_ok he
  obtain ⟨rfl, rfl⟩ := okB he
  rw [need_yes (hTU.is (by decide) h1)]
  rcases h _ _ _ hf with ⟨o1', e1, b1⟩ | ⟨l, c, e1⟩
  · rw [e1]
    simp only [also_is]
    rw [need_yes (hTU.is (by decide) h2)]
    rcases h _ _ _ hf2 with ⟨o2', e2, b2⟩ | ⟨l, c, e2⟩
    · rw [e2]
      simp only [also_is]
      rw [need_yes (hTU.is (by decide) h3)]
      exact .inl ⟨_, rfl, by rw [barL_app, barL_app, barL_app, barL_app, b1, b2]; rfl⟩
    · rw [e2]; exact .inr ⟨l, c, rfl⟩
  · rw [e1]; exact .inr ⟨l, c, rfl⟩
theorem signP_B {T U : List Tk} (hTU : InBr T U) {prop : Bool} {s1 s2 f1 f2 : Int → PR} (hs : RelB s1 s2) (hf : RelB f1 f2) : RelB (signP T prop s1 f1) (signP U prop s2 f2) := by
  intro i o a he
  unfold signP at he ⊢
  split at he
  · rename_i q
    rw [if_pos (hTU.is (by decide) q)]
    obtain ⟨o1, b, h1, h2⟩ := also_ok he
    obtain ⟨h3, h4⟩ := need_ok h2
    obtain ⟨rfl, rfl⟩ := okB h4
    rcases hf _ _ _ h1 with ⟨o1', e1, b1⟩ | ⟨l, c, e1⟩
    · rw [e1]
      simp only [also_is]
      rw [need_yes (hTU.is (by decide) h3)]
      exact .inl ⟨o1', rfl, b1⟩
    · rw [e1]; exact .inr ⟨l, c, rfl⟩
  rename_i q
  have hk : (tkAt T i).kind ≠ 5 := by
    split at he
    · unfold compP at he
      split at he
      · rename_i h1; exact isWord_kind h1
      · cases he
    · rename_i h2; omega
  obtain ⟨t1, t2, t3⟩ := hTU.low i hk
  have q' : ¬ isTk U (i + 1) 4 sOpen = true := by
    intro h; apply q; unfold isTk at h ⊢; rw [t1, t2] at h; exact h
  rw [if_neg q', t1, t2]
  split at he
  · rename_i q2; rw [if_pos q2]; exact compP_B hTU _ _ _ he
  rename_i q2; rw [if_neg q2]
  split at he
  · rename_i q3; rw [if_pos q3]
    obtain ⟨o1, b, h1, h2⟩ := also_ok he
    obtain ⟨rfl, rfl⟩ := okB h2
    rcases hs _ _ _ h1 with ⟨o1', e1, b1⟩ | ⟨l, c, e1⟩
    · rw [e1]; exact .inl ⟨_, rfl, by rw [barL_app, barL_app, b1]; rfl⟩
    · rw [e1]; exact .inr ⟨l, c, rfl⟩
  rename_i q3; rw [if_neg q3]
  split at he
  · cases he
  rename_i q4; rw [if_neg q4]
  split at he
  · rename_i q5; rw [if_pos q5]; exact untilP_B hTU hf _ _ _ _ he
  rename_i q5; rw [if_neg q5]
  split at he
  · rename_i q6; rw [if_pos q6]; exact untilP_B hTU hf _ _ _ _ he
  rename_i q6; rw [if_neg q6]
  split at he
  · rename_i q7; rw [if_pos q7]; exact .inl (atomP_B hTU prop i hk o a he)
  rename_i q7; rw [if_neg q7]
  obtain ⟨o1, b, h1, h2⟩ := also_ok he
  obtain ⟨rfl, rfl⟩ := okB h2
  rcases hs _ _ _ h1 with ⟨o1', e1, b1⟩ | ⟨l, c, e1⟩
  · rw [e1]; exact .inl ⟨_, rfl, by rw [barL_app, barL_app, b1]; rfl⟩
  · rw [e1]; exact .inr ⟨l, c, rfl⟩
theorem formP_B {T U : List Tk} (hTU : InBr T U) {s1 s2 f1 f2 : Int → PR} (hs : RelB s1 s2) (hG : Good T s1) (hf : RelB f1 f2) : RelB (formP T s1 f1) (formP U s2 f2) := by
  intro i o a he
  unfold formP at he ⊢
  obtain ⟨o1, b, h1, h2⟩ := also_ok he
  rcases rowsP_B hTU (rowsP_B hTU hs hG wAnd 16) (rowsP_good hG wAnd 16) wOr 17 _ _ _ h1 with ⟨o1', e1, b1⟩ | ⟨l, c, e1⟩
  · rw [e1]
    simp only [also_is]
    cases hq : isTk T b 2 wImplies with
    | true =>
      rw [hq, if_pos rfl] at h2
      rw [hTU.is (by decide) hq, if_pos rfl]
      obtain ⟨o2, d, h3, h4⟩ := also_ok h2
      obtain ⟨rfl, rfl⟩ := okB h4
      rcases hf _ _ _ h3 with ⟨o2', e2, b2⟩ | ⟨l, c, e2⟩
      · rw [e2]; exact .inl ⟨_, rfl, by rw [barL_app, barL_app, barL_app, barL_app, b1, b2]; rfl⟩
      · rw [e2]; exact .inr ⟨l, c, rfl⟩
    | false =>
      rw [hq] at h2
      rw [hTU.not (by decide) (by decide) hq]
      have h2 : PR.ok o1 b = .ok o a := h2
      obtain ⟨rfl, rfl⟩ := okB h2
      exact .inl ⟨o1', rfl, b1⟩
  · rw [e1]; exact .inr ⟨l, c, rfl⟩
theorem both_B {T U : List Tk} (hTU : InBr T U) (prop : Bool) : ∀ n, RelB (bothP T prop (n + 1)).1 (bothP U prop n).1 ∧ RelB (bothP T prop (n + 1)).2 (bothP U prop n).2
  | 0 => ⟨fun i o a _ => .inr ⟨_, _, rfl⟩, fun i o a _ => .inr ⟨_, _, rfl⟩⟩
  | n + 1 => by
    have ih := both_B hTU prop n
    have hs := signP_B hTU (prop := prop) ih.1 ih.2
    exact ⟨hs, formP_B hTU hs (both_good T prop (n + 2)).1 ih.2⟩

/-- a row of one formula, behind which neither word stands -/
theorem rowsP_one {U : List Tk} {g : Int → PR} {wd : ByteArray} {op i a : Int} {o : List It} (h : g i = .ok o a) (hn : isTk U a 2 wd = false) : rowsP U g wd op i = .ok o a := by
  unfold rowsP
  rw [h]
  show rowP U g wd op (U.length + 1) a o = _
  rw [rowP, hn]; rfl
theorem rowsP_bad {U : List Tk} {g : Int → PR} {wd : ByteArray} {op i e l c : Int} (h : g i = .bad e l c) : rowsP U g wd op i = .bad e l c := by
  unfold rowsP; rw [h]; rfl

/-- the whole formula in brackets -/
theorem read_B {T U : List Tk} (hTU : InBr T U) {prop : Bool} {o : List It} {a : Int} (ho : isTk U 0 4 sOpen = true) (hc : isTk U (a + 1) 4 sClose = true) (he : (tkAt U (a + 2)).kind = 5) (h : readP T prop 0 = .ok o a) :
    (∃ o', readP U prop 0 = .ok o' (a + 2) ∧ barL o' = barL o) ∨ ∃ l c, readP U prop 0 = .bad 5 l c := by
  have h1 : (bothP T prop 25).2 0 = .ok o a ∧ o.length ≤ 64 := by
    unfold readP at h
    cases hp : (bothP T prop 25).2 0 with
    | bad e l c => rw [hp] at h; cases h
    | ok o1 a1 =>
      rw [hp] at h
      dsimp only at h
      split at h
      · cases h
      · obtain ⟨rfl, rfl⟩ := okB h; exact ⟨rfl, by omega⟩
  have hn : ∀ wd, isTk U (a + 2) 2 wd = false := fun wd => by unfold isTk; rw [he]; rfl
  rcases (both_B hTU prop 24).2 _ _ _ h1.1 with ⟨o', e1, b1⟩ | ⟨l, c, e1⟩
  · have hs : (bothP U prop 25).1 0 = .ok o' (a + 2) := by
      show signP U prop _ _ 0 = _
      unfold signP
      rw [if_pos ho]
      rw [show (0 : Int) + 1 = 1 from rfl] at e1
      rw [show (0 : Int) + 1 = 1 from rfl, e1]
      show needP U (a + 1) 4 sClose _ = _
      rw [need_yes hc]
      show PR.ok o' (a + 1 + 1) = _
      rw [show a + 1 + 1 = a + 2 by omega]
    have hf : (bothP U prop 25).2 0 = .ok o' (a + 2) := by
      show formP U (bothP U prop 25).1 _ 0 = _
      unfold formP
      rw [rowsP_one (rowsP_one hs (hn _)) (hn _)]
      show (if isTk U (a + 2) 2 wImplies = true then _ else _) = _
      rw [hn]; rfl
    have hl : o'.length ≤ 64 := by
      have := congrArg List.length b1
      simp only [barL, List.length_map] at this
      omega
    refine .inl ⟨o', ?_, b1⟩
    unfold readP
    rw [hf]
    dsimp only
    rw [if_neg (by omega)]
  · have hs : (bothP U prop 25).1 0 = .bad 5 l c := by
      show signP U prop _ _ 0 = _
      unfold signP
      rw [if_pos ho, show (0 : Int) + 1 = 1 from rfl]
      rw [show (0 : Int) + 1 = 1 from rfl] at e1
      rw [e1]; rfl
    have hf : (bothP U prop 25).2 0 = .bad 5 l c := by
      show formP U (bothP U prop 25).1 _ 0 = _
      unfold formP
      rw [rowsP_bad (rowsP_bad hs)]; rfl
    refine .inr ⟨l, c, ?_⟩
    unfold readP
    rw [hf]

end Go.Proofs.YtignjhbajjephaaDoor

namespace Go.Proofs.YtignjhbajjephaaDoor
open Go.RowKit

/-- a text in brackets -/
def brk (s : ByteArray) : ByteArray := ⟨#[40, 10]⟩ ++ s ++ ⟨#[10, 41]⟩
theorem brk_size (s : ByteArray) : (brk s).size = s.size + 4 := by
  unfold brk
  rw [ByteArray.size_append, ByteArray.size_append]
  show 2 + s.size + 2 = _
  omega
theorem brk_list (s : ByteArray) : (brk s).data.toList = [40, 10] ++ (s.data.toList ++ [10, 41]) := by
  unfold brk
  simp [ByteArray.data_append]
theorem get_list (P : ByteArray) (k : Nat) : P.get! k = P.data.toList.getD k 0 := by
  cases P with | mk bs =>
  show bs[k]! = bs.toList.getD k 0
  rw [List.getD_eq_getElem?_getD, Array.getElem?_toList, getElem!_def]
  cases bs[k]? with
  | none => rfl
  | some x => rfl
theorem ext_list (P : ByteArray) (b e : Nat) : (P.extract b e).data.toList = (P.data.toList.drop b).take (e - b) := by
  simp [ByteArray.data_extract, List.extract_eq_take_drop]
theorem ba_ext {a b : ByteArray} (h : a.data.toList = b.data.toList) : a = b := by
  cases a; cases b
  simp only [ByteArray.mk.injEq]
  exact Array.toList_inj.1 h
theorem brk_inner (s : ByteArray) : Inner s (brk s) 2 where
  byte := fun k hk => by
    rw [get_list, get_list, brk_list, List.getD_eq_getElem?_getD, List.getD_eq_getElem?_getD, List.getElem?_append_right (by simp), List.getElem?_append_left (by simp; omega)]
    congr 2
    simp
  size := by rw [brk_size]; omega
  next := by
    rw [get_list, brk_list, List.getD_eq_getElem?_getD, List.getElem?_append_right (by simp), List.getElem?_append_right (by simp)]
    simp
  cut := fun f t ht => by
    apply ba_ext
    rw [ext_list, ext_list, brk_list, show t + 2 - (f + 2) = t - f by omega]
    have hl : s.data.toList.length = s.size := by simp
    show List.take (t - f) (List.drop f (s.data.toList ++ [10, 41])) = _
    by_cases hf : f ≤ s.size
    · rw [List.drop_append_of_le_length (by omega), List.take_append_of_le_length (by rw [List.length_drop]; omega)]
    · rw [show t - f = 0 by omega]; rfl

/-- what a byte of ASCII is -/
theorem dec_ascii {P : ByteArray} {p : Nat} (h : (P.get! p).toNat < 128) : decR P p = ((P.get! p).toNat : Int) ∧ decN P p = 1 := by
  have hd : Utf8.decode P p = ((P.get! p).toNat, 1) := by
    unfold Utf8.decode
    simp only [Nat.add_zero]
    rw [if_pos h]
  unfold decR decN
  rw [hd]
  refine ⟨?_, rfl⟩
  rw [if_neg (by omega)]
theorem brk_last (s : ByteArray) : (brk s).data.toList[3 + s.size]? = some 41 := by
  have hl : s.data.toList.length = s.size := by simp
  rw [brk_list, List.getElem?_append_right (by simp only [List.length_cons, List.length_nil]; omega), List.getElem?_append_right (by simp only [List.length_cons, List.length_nil]; omega)]
  have e : 3 + s.size - [(40 : UInt8), 10].length - s.data.toList.length = 1 := by simp only [List.length_cons, List.length_nil]; omega
  rw [e]; rfl
theorem take_one {l : List UInt8} {n : Nat} {x : UInt8} (h : l[n]? = some x) : (l.drop n).take 1 = [x] := by
  obtain ⟨hn, rfl⟩ := List.getElem?_eq_some_iff.1 h
  rw [List.drop_eq_getElem_cons hn]; rfl
theorem brk_at0 (s : ByteArray) : (brk s).get! 0 = 40 ∧ (brk s).get! 1 = 10 ∧ (brk s).get! (2 + s.size) = 10 ∧ (brk s).get! (3 + s.size) = 41 := by
  refine ⟨?_, ?_, ?_, ?_⟩
  · rw [get_list, brk_list]; rfl
  · rw [get_list, brk_list]; rfl
  · exact (brk_inner s).next
  · rw [get_list, List.getD_eq_getElem?_getD, brk_last]; rfl

theorem brk_runes (s : ByteArray) : ∃ x0 x1 Y x3 x4, allR (brk s) = x0 :: x1 :: (Y ++ [x3, x4]) ∧ ShL 2 (allR s) Y ∧ x0.r = 40 ∧ x0.fr = 0 ∧ x0.to = 1 ∧ x1.r = 10 ∧ x3.r = 10 ∧ x4.r = 41 ∧ x4.fr = 3 + s.size ∧ x4.to = 4 + s.size := by
  obtain ⟨g0, g1, g2, g3⟩ := brk_at0 s
  have d0 := dec_ascii (P := brk s) (p := 0) (by rw [g0]; decide)
  have d1 := dec_ascii (P := brk s) (p := 1) (by rw [g1]; decide)
  have d2 := dec_ascii (P := brk s) (p := 2 + s.size) (by rw [g2]; decide)
  have d3 := dec_ascii (P := brk s) (p := 3 + s.size) (by rw [g3]; decide)
  rw [g0] at d0; rw [g1] at d1; rw [g2] at d2; rw [g3] at d3
  have hs := brk_size s
  unfold allR
  rw [restG_cons _ _ _ _ _ (show 0 < (brk s).size by omega), d0.1, d0.2, restG_cons _ _ _ _ _ (show 0 + 1 < (brk s).size by omega), show 0 + 1 = 1 from rfl, d1.1, d1.2, show 1 + 1 = 2 + 0 from rfl]
  obtain ⟨Y, l2, c2, e, hY⟩ := (brk_inner s).runes (s.size - 0) 0 1 1 (nextLine ((10 : UInt8).toNat : Int) (nextLine ((40 : UInt8).toNat : Int) 1)) (nextCol ((10 : UInt8).toNat : Int) (nextCol ((40 : UInt8).toNat : Int) 1)) (by omega) (by omega)
  rw [e, restG_cons _ _ _ _ _ (show 2 + s.size < (brk s).size by omega), d2.1, d2.2, show 2 + s.size + 1 = 3 + s.size by omega, restG_cons _ _ _ _ _ (show 3 + s.size < (brk s).size by omega), d3.1, d3.2, restG_nil _ _ _ _ _ (by omega)]
  exact ⟨_, _, Y, _, _, rfl, hY, rfl, rfl, rfl, rfl, rfl, rfl, rfl, by dsimp only; omega⟩

theorem brk_shf (s : ByteArray) (hs : s.size ≤ 3000) : Shf s (brk s) (allR s) (allR (brk s)) 2 2 ∧ (allR (brk s)).length = (allR s).length + 4 ∧ rAt (allR (brk s)) 0 = 40 ∧ rAt (allR (brk s)) 1 = 10 ∧ rAt (allR (brk s)) ((allR s).length + 3) = 41 ∧
    txt (brk s) (allR (brk s)) 0 1 = ⟨#[40]⟩ ∧ txt (brk s) (allR (brk s)) ((allR s).length + 3) 1 = ⟨#[41]⟩ := by
  obtain ⟨x0, x1, Y, x3, x4, e, hY, a0, b0, c0, a1, a3, a4, b4, c4⟩ := brk_runes s
  have hlen : (allR s).length ≤ s.size := by have := restG_len (decR s) s 0 1 1; simpa [allR] using this
  have hok := rnOk s (by omega)
  have hl := hY.1
  have at2 : ∀ j, (allR (brk s))[j + 2]? = (Y ++ [x3, x4])[j]? := fun j => by rw [e]; rfl
  have e3 : (allR (brk s))[(allR s).length + 2]? = some x3 := by rw [at2, hl, List.getElem?_append_right (Nat.le_refl _), Nat.sub_self]; rfl
  have e4 : (allR (brk s))[(allR s).length + 3]? = some x4 := by
    rw [show (allR s).length + 3 = (allR s).length + 1 + 2 by omega, at2, hl, List.getElem?_append_right (by omega), show Y.length + 1 - Y.length = 1 by omega]; rfl
  have e0 : (allR (brk s))[0]? = some x0 := by rw [e]; rfl
  have e1 : (allR (brk s))[1]? = some x1 := by rw [e]; rfl
  have hln : (allR (brk s)).length = (allR s).length + 4 := by rw [e, hl]; simp
  refine ⟨⟨fun j x hx => ?_, ?_, (brk_inner s).cut, fun j x hx => (hok.le j j x x (Nat.le_refl _) hx hx).2, by omega⟩, hln, ?_, ?_, ?_, ?_, ?_⟩
  · obtain ⟨y, hy, h1, h2, h3⟩ := hY.2 j x hx
    refine ⟨y, ?_, h1, h2, h3⟩
    rw [at2, List.getElem?_append_left (by have := (List.getElem?_eq_some_iff.1 hy).1; exact this)]
    exact hy
  · rw [rAt_some e3, a3]
  · rw [rAt_some e0, a0]
  · rw [rAt_some e1, a1]
  · rw [rAt_some e4, a4]
  · unfold txt
    rw [(at_some e0).2.1, show 0 + (1 - 1) = 0 from rfl, (at_some e0).2.2.1, b0, c0]
    apply ba_ext
    rw [ext_list, brk_list]; rfl
  · unfold txt
    rw [(at_some e4).2.1, show (allR s).length + 3 + (1 - 1) = (allR s).length + 3 from rfl, (at_some e4).2.2.1, b4, c4]
    apply ba_ext
    rw [ext_list, show 4 + s.size - (3 + s.size) = 1 by omega]
    exact take_one (brk_last s)

theorem run_step {P : ByteArray} {L : List Rn} {k i j : Nat} {T U : List Tk} (hi : i < L.length) (h : oneT P L i T = ⟨0, 0, 0, j, U⟩) : runT P L (k + 1) i T = runT P L k j U := by
  rw [runT, if_pos hi, h]; rfl
theorem one_blank {P : ByteArray} {L : List Rn} {i : Nat} {T : List Tk} (h : rAt L i = 10) : oneT P L i T = ⟨0, 0, 0, i + 1, T⟩ := by
  unfold oneT; rw [h]; rfl
theorem sign_br (c d : Int) (h : c = 40 ∨ c = 41) : signN c d = 1 := by
  unfold signN; rcases h with rfl | rfl <;> simp
theorem one_br {P : ByteArray} {L : List Rn} {i : Nat} {T : List Tk} {c : Int} (h : rAt L i = c) (hc : c = 40 ∨ c = 41) (hT : T.length < 4096) : oneT P L i T = ⟨0, 0, 0, i + 1, T ++ [⟨4, txt P L i 1, 0, lineAt L i, colAt L i⟩]⟩ := by
  have e1 : blankB c = false := by rcases hc with rfl | rfl <;> rfl
  have e2 : c ≠ 35 := by omega
  have e3 : letterB c = false := by rcases hc with rfl | rfl <;> rfl
  have e4 : isNum L i = false := by unfold isNum; rw [h]; rcases hc with rfl | rfl <;> rfl
  have e5 : signT P L i T = ⟨0, 0, 0, i + 1, T ++ [⟨4, txt P L i 1, 0, lineAt L i, colAt L i⟩]⟩ := by
    unfold signT; rw [h, sign_br c _ hc]; rfl
  unfold oneT tokT
  rw [h, e1, e3, e4]
  simp only [Bool.false_eq_true, if_false]
  rw [if_neg e2, e5]
  unfold capT
  rw [if_neg (by simp), if_neg (by simp; omega)]

/-- the tokens of a text in brackets -/
theorem brk_tok (s : ByteArray) (hs : s.size ≤ 3000) (he : (tokRes s).er = 0) : ∃ R R2 l c l2 c2, (tokRes s).T = R ++ [endTk s] ∧ (tokRes (brk s)).er = 0 ∧ (tokRes (brk s)).T = [⟨4, sOpen, 0, l, c⟩] ++ R2 ++ [⟨4, sClose, 0, l2, c2⟩] ++ [endTk (brk s)] ∧ TwinL R R2 ∧ ∀ x ∈ R, x.kind ≠ 5 := by
  obtain ⟨hS, hl, r0, r1, r4, t0, t4⟩ := brk_shf s hs
  have hlen : (allR s).length ≤ s.size := by have := restG_len (decR s) s 0 1 1; simpa [allR] using this
  obtain ⟨R0, hR0, _, _, hk, _⟩ := tokRes_rises s he
  have hu : (runT s (allR s) (allR s).length 0 []).er = 0 ∧ (tokRes s).T = (runT s (allR s) (allR s).length 0 []).T ++ [endTk s] := by
    unfold tokRes at he ⊢
    rw [if_neg (by omega)] at he ⊢
    by_cases q : (runT s (allR s) (allR s).length 0 []).er ≠ 0
    · rw [if_pos q] at he; exact absurd he q
    · rw [if_neg q]; exact ⟨by omega, rfl⟩
  obtain ⟨hu0, hu1⟩ := hu
  have hRR : R0 = (runT s (allR s) (allR s).length 0 []).T := by
    rw [hR0] at hu1
    exact (List.append_inj' hu1 rfl).1
  obtain ⟨k3, T3, hk3, hT3, hln, hrun⟩ := hS.run [⟨4, sOpen, 0, lineAt (allR (brk s)) 0, colAt (allR (brk s)) 0⟩] (by simp; omega) (allR s).length 0 [] [] (by omega) (by omega) (by simp) TwinL.nil hu0 ((allR s).length + 2) (by omega)
  obtain ⟨k4, rfl⟩ : ∃ q, k3 = q + 2 := ⟨k3 - 2, by omega⟩
  have hT3l := hT3.1
  have hfull : runT (brk s) (allR (brk s)) (allR (brk s)).length 0 [] = ⟨0, 0, 0, (allR s).length + 4, [⟨4, sOpen, 0, lineAt (allR (brk s)) 0, colAt (allR (brk s)) 0⟩] ++ T3 ++ [⟨4, sClose, 0, lineAt (allR (brk s)) ((allR s).length + 3), colAt (allR (brk s)) ((allR s).length + 3)⟩]⟩ := by
    rw [show (allR (brk s)).length = (allR s).length + 2 + 1 + 1 by omega]
    rw [run_step (by omega) (one_br r0 (.inl rfl) (by simp)), run_step (by omega) (one_blank r1), t0]
    rw [Nat.zero_add] at hrun
    rw [show (0 : Nat) + 1 + 1 = 2 from rfl]
    rw [List.append_nil] at hrun
    refine hrun.trans ?_
    rw [run_step (by omega) (one_blank hS.nxt), run_step (by omega) (one_br (i := (allR s).length + 2 + 1) r4 (.inr rfl) (by simp; omega)), t4]
    cases k4 with
    | zero => rfl
    | succ k4 => rw [runT, if_neg (by omega)]; rfl
  refine ⟨_, T3, lineAt (allR (brk s)) 0, colAt (allR (brk s)) 0, lineAt (allR (brk s)) ((allR s).length + 3), colAt (allR (brk s)) ((allR s).length + 3), hu1, ?_, ?_, hT3, ?_⟩
  · unfold tokRes
    rw [if_neg (by omega), hfull]; rfl
  · unfold tokRes
    rw [if_neg (by omega), hfull]; rfl
  · intro x hx
    rw [← hRR] at hx
    have := hk x hx
    omega

theorem tkAt_nat (T : List Tk) (i : Nat) : tkAt T (i : Int) = (match T[i]? with | some x => x | none => noTk) := by
  unfold tkAt
  rw [if_neg (by omega), Int.toNat_natCast]
  rfl
theorem tkAt_neg {T : List Tk} {i : Int} (h : i < 0) : tkAt T i = noTk := by unfold tkAt; rw [if_pos h]

theorem brk_in {R R2 : List Tk} {a b e f : Tk} (h : TwinL R R2) (hk : ∀ x ∈ R, x.kind ≠ 5) (ha : a.kind = 4) (hb : b.kind = 4) (he : e.kind = 5) (hf : f.kind = 5) :
    InBr (R ++ [e]) ([a] ++ R2 ++ [b] ++ [f]) where
  low := fun i hi => by
    have h0 : 0 ≤ i := Classical.byContradiction fun hc => hi (by rw [tkAt_neg (by omega)]; rfl)
    obtain ⟨n, rfl⟩ : ∃ n : Nat, i = n := ⟨i.toNat, by omega⟩
    have hl := h.1
    by_cases hn : n < R.length
    · have hx := List.getElem?_eq_getElem hn
      have hy := List.getElem?_eq_getElem (show n < R2.length by omega)
      rw [show (n : Int) + 1 = ((n + 1 : Nat) : Int) from rfl, tkAt_nat, tkAt_nat, List.getElem?_append_left hn, hx, List.append_assoc, List.append_assoc, List.getElem?_append_right (by simp), show n + 1 - [a].length = n by simp, List.getElem?_append_left (by omega), hy]
      exact h.2 n _ _ hx hy
    · exfalso
      apply hi
      rw [tkAt_nat]
      by_cases hn2 : n = R.length
      · rw [hn2, List.getElem?_append_right (Nat.le_refl _), Nat.sub_self]; exact he
      · rw [List.getElem?_eq_none (by simp; omega)]; rfl
  high := fun i hi => by
    have hl := h.1
    by_cases h0 : i < -1
    · exact .inr (by rw [tkAt_neg (by omega)]; rfl)
    by_cases h1 : i = -1
    · subst h1; exact .inl ha
    obtain ⟨n, rfl⟩ : ∃ n : Nat, i = n := ⟨i.toNat, by omega⟩
    rw [tkAt_nat] at hi
    rw [show (n : Int) + 1 = ((n + 1 : Nat) : Int) from rfl, tkAt_nat]
    by_cases hn : n < R.length
    · rw [List.getElem?_append_left hn, List.getElem?_eq_getElem hn] at hi
      exact absurd hi (hk _ (List.getElem_mem hn))
    by_cases hn2 : n = R.length
    · left
      rw [List.getElem?_append_left (by simp; omega), List.getElem?_append_right (by simp; omega), show n + 1 - ([a] ++ R2).length = 0 by simp; omega]
      exact hb
    right
    by_cases hn3 : n = R.length + 1
    · rw [List.getElem?_append_right (by simp; omega), show n + 1 - ([a] ++ R2 ++ [b]).length = 0 by simp; omega]
      exact hf
    · rw [List.getElem?_eq_none (by simp; omega)]; rfl
  len := by have := h.1; simp; omega

/-- a text in brackets is read as the text -/
theorem whole_B {s : ByteArray} (hs : s.size ≤ 3000) {prop : Bool} {o : List It} {a : Int} (h : wholeP s prop = .ok o a) :
    (∃ o' a', wholeP (brk s) prop = .ok o' a' ∧ barL o' = barL o) ∨ ∃ l c, wholeP (brk s) prop = .bad 5 l c := by
  have h1 : (tokRes s).er = 0 ∧ readP (tokRes s).T prop 0 = .ok o a ∧ (tkAt (tokRes s).T a).kind = 5 := by
    unfold wholeP at h
    split at h
    · cases h
    · rename_i q
      cases hp : readP (tokRes s).T prop 0 with
      | bad e l c => rw [hp] at h; cases h
      | ok o1 a1 =>
        rw [hp] at h
        dsimp only at h
        split at h
        · rename_i q5; obtain ⟨rfl, rfl⟩ := okB h; exact ⟨by omega, rfl, q5⟩
        · cases h
  obtain ⟨h0, h2, h5⟩ := h1
  obtain ⟨R, R2, l, c, l2, c2, e1, e2, e3, e4, e5⟩ := brk_tok s hs h0
  have hin := brk_in e4 e5 (a := ⟨4, sOpen, 0, l, c⟩) (b := ⟨4, sClose, 0, l2, c2⟩) (e := endTk s) (f := endTk (brk s)) rfl rfl rfl rfl
  have hg := readP_in h2
  have hl := e4.1
  rw [e1] at h2 h5 hg
  have ha : a = (R.length : Int) := by
    obtain ⟨n, rfl⟩ : ∃ n : Nat, a = n := ⟨a.toNat, by omega⟩
    have h7 : (R ++ [endTk s]).length = R.length + 1 := by simp
    by_cases hn : n < R.length
    · rw [tkAt_nat, List.getElem?_append_left hn, List.getElem?_eq_getElem hn] at h5
      exact absurd h5 (e5 _ (List.getElem_mem hn))
    · by_cases hn2 : n = R.length
      · rw [hn2]
      · have hn3 : n = R.length + 1 := by omega
        exfalso
        apply hg.2.2.2
        rw [hn3, show ((R.length + 1 : Nat) : Int) - 1 = ((R.length : Nat) : Int) by omega, tkAt_nat, List.getElem?_append_right (Nat.le_refl _), Nat.sub_self]; rfl
  have ho : isTk ([⟨4, sOpen, 0, l, c⟩] ++ R2 ++ [⟨4, sClose, 0, l2, c2⟩] ++ [endTk (brk s)]) 0 4 sOpen = true := by
    unfold isTk; simp [tkAt]
  have hc : isTk ([⟨4, sOpen, 0, l, c⟩] ++ R2 ++ [⟨4, sClose, 0, l2, c2⟩] ++ [endTk (brk s)]) (a + 1) 4 sClose = true := by
    unfold isTk
    rw [ha, show (R.length : Int) + 1 = ((R.length + 1 : Nat) : Int) from rfl, tkAt_nat, List.getElem?_append_left (by simp; omega), List.getElem?_append_right (by simp; omega), show R.length + 1 - ([(⟨4, sOpen, 0, l, c⟩ : Tk)] ++ R2).length = 0 by simp; omega]
    simp
  have hend : (tkAt ([⟨4, sOpen, 0, l, c⟩] ++ R2 ++ [⟨4, sClose, 0, l2, c2⟩] ++ [endTk (brk s)]) (a + 2)).kind = 5 := by
    rw [ha, show (R.length : Int) + 2 = ((R.length + 2 : Nat) : Int) from rfl, tkAt_nat, List.getElem?_append_right (by simp; omega), show R.length + 2 - ([(⟨4, sOpen, 0, l, c⟩ : Tk)] ++ R2 ++ [(⟨4, sClose, 0, l2, c2⟩ : Tk)]).length = 0 by simp; omega]
    rfl
  rcases read_B hin ho hc hend h2 with ⟨o', g1, g2⟩ | ⟨l', c', g1⟩
  · refine .inl ⟨o', a + 2, ?_, g2⟩
    unfold wholeP
    rw [if_neg (by omega), e3, g1]
    dsimp only
    rw [if_pos hend]
  · refine .inr ⟨l', c', ?_⟩
    unfold wholeP
    rw [if_neg (by omega), e3, g1]

end Go.Proofs.YtignjhbajjephaaDoor

namespace Go.Proofs.YtignjhbajjephaaDoor
open Go.RowKit

def PR.items : PR → List It
  | .ok o _ => o
  | .bad _ _ _ => []
def PR.fe : PR → Int
  | .ok _ _ => 0
  | .bad e _ _ => e
def PR.fl : PR → Int
  | .ok _ _ => 0
  | .bad _ l _ => l
def PR.fc : PR → Int
  | .ok _ _ => 0
  | .bad _ _ c => c
theorem WholePost.all {w w' : World} {p : PR} {e : Ending} (h : WholePost w p e w') :
    ∃ v, e = .returned (.tuple #[v, .agg #[.int .i64 p.fe, .int .i64 p.fl, .int .i64 p.fc]]) ∧ w'.ownsRow w.heap.size 41 9 v p.items.length (itFlat p.items) ∧ Below w.heap.size w w' := by
  cases p with
  | ok o a => exact h
  | bad er l c => exact ⟨_, h.1, World.ownsRow_nil _ _ _ _, h.2⟩

end Go.Proofs.YtignjhbajjephaaDoor

namespace Go.Proofs.YtignjhbajjephaaDoor
open Go.RowKit

/-- "not a < 3 and open s" -/
def awakeT : ByteArray := ⟨#[110, 111, 116, 32, 97, 32, 60, 32, 51, 32, 97, 110, 100, 32, 111, 112, 101, 110, 32, 115]⟩
theorem awakeT_tok : tokRes awakeT = ⟨0, 0, 0, 0, [⟨2, ⟨#[110, 111, 116]⟩, 0, 1, 1⟩, ⟨1, ⟨#[97]⟩, 0, 1, 5⟩, ⟨4, ⟨#[60]⟩, 0, 1, 7⟩, ⟨3, ⟨#[51]⟩, 3, 1, 9⟩, ⟨2, ⟨#[97, 110, 100]⟩, 0, 1, 11⟩, ⟨2, ⟨#[111, 112, 101, 110]⟩, 0, 1, 15⟩, ⟨1, ⟨#[115]⟩, 0, 1, 20⟩, ⟨5, ⟨#[]⟩, 0, 1, 21⟩]⟩ := by kernel_rfl
theorem awakeT_whole : wholeP awakeT false = .ok [⟨3, ⟨#[97]⟩, 0, ⟨#[]⟩, 3, ⟨#[]⟩, ⟨#[]⟩, 1, 5⟩, ⟨15, ⟨#[]⟩, 0, ⟨#[]⟩, 0, ⟨#[]⟩, ⟨#[]⟩, 1, 1⟩, ⟨9, ⟨#[]⟩, 0, ⟨#[]⟩, 0, ⟨#[115]⟩, ⟨#[]⟩, 1, 20⟩, ⟨16, ⟨#[]⟩, 0, ⟨#[]⟩, 0, ⟨#[]⟩, ⟨#[]⟩, 1, 11⟩] 7 := by
  unfold wholeP
  rw [awakeT_tok]
  kernel_rfl

set_option maxHeartbeats 2000000 in
theorem awake05 (w : World) (hm : MaxCell w) :
    Calls Tryd.prog 6 #[] w fun e w' => e = .returned (.bool true) ∧ Below w.heap.size w w' := by
  have HW := Lib.hid (whole_any awakeT false w hm (by decide))
  have HA := Lib.hid awakeT_whole
  go_enter Tryd.func6, Tryd.ntmps6
  go_wp2_with fail
  refine HW.out.mono ?_
  rw [HA.out]
  rintro e w1 ⟨v, rfl, hown, hb1⟩
  simp only [List.length_cons, List.length_nil, Nat.zero_add, Nat.reduceAdd] at hown
  obtain ⟨g, cap, rfl, hg, hgs⟩ := owns_shape hown (by omega)
  have c0 := World.ownsRow.cellAt hown 0 (by omega)
  have c9 := World.ownsRow.cellAt hown 9 (by omega)
  have c23 := World.ownsRow.cellAt hown 23 (by omega)
  have c27 := World.ownsRow.cellAt hown 27 (by omega)
  have HB := Lib.hid hb1
  clear hown hb1
  simp only [itFlat, itCells, List.flatMap_cons, List.flatMap_nil, List.cons_append, List.nil_append, List.append_nil, List.getElem?_cons_zero, List.getElem?_cons_succ] at c0 c9 c23 c27
  go_wp2
  go_ret
  exact ⟨rfl, HB.out.alloc HB.out.size _⟩

end Go.Proofs.YtignjhbajjephaaDoor
