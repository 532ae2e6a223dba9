/- Plain: a text within another one, behind which a line ends, has its own tokens there, but for places. Plain: formulas read from tokens: what is read, and where it ends, or what is wrong first, and where; no program in sight. -/
import Derived.Test.YthhjepgcbfmfeaaGreatDoorSb09
import Derived.Test.YthhjepgcbfmfeaaGreatDoorSb03

namespace Go.Proofs.YthhjepgcbfmfeaaGreatDoor
open Go.RowKit

/-- s lies in P from byte a on, and a line's end is behind it, or nothing -/
structure Inner (s P : ByteArray) (a : Nat) : Prop where
  byte : ∀ k, k < s.size → P.get! (a + k) = s.get! k
  next : (a + s.size < P.size ∧ P.get! (a + s.size) = 10) ∨ a + s.size = P.size
  cut : ∀ f t : Nat, t ≤ s.size → P.extract (f + a) (t + a) = s.extract f t

theorem decode_same {s P : ByteArray} {i j : Nat} (h0 : P.get! (j + 0) = s.get! (i + 0))
    (h1 : (decide (j + 1 < P.size) && (P.get! (j + 1)).toNat / 64 == 2) = (decide (i + 1 < s.size) && (s.get! (i + 1)).toNat / 64 == 2) ∧ ((decide (i + 1 < s.size) && (s.get! (i + 1)).toNat / 64 == 2) = true → P.get! (j + 1) = s.get! (i + 1)))
    (h2 : (decide (i + 1 < s.size) && (s.get! (i + 1)).toNat / 64 == 2) = true → (decide (j + 2 < P.size) && (P.get! (j + 2)).toNat / 64 == 2) = (decide (i + 2 < s.size) && (s.get! (i + 2)).toNat / 64 == 2) ∧ ((decide (i + 2 < s.size) && (s.get! (i + 2)).toNat / 64 == 2) = true → P.get! (j + 2) = s.get! (i + 2)))
    (h3 : (decide (i + 1 < s.size) && (s.get! (i + 1)).toNat / 64 == 2) = true → (decide (i + 2 < s.size) && (s.get! (i + 2)).toNat / 64 == 2) = true → (decide (j + 3 < P.size) && (P.get! (j + 3)).toNat / 64 == 2) = (decide (i + 3 < s.size) && (s.get! (i + 3)).toNat / 64 == 2) ∧ ((decide (i + 3 < s.size) && (s.get! (i + 3)).toNat / 64 == 2) = true → P.get! (j + 3) = s.get! (i + 3))) :
    Utf8.decode P j = Utf8.decode s i := by
  unfold Utf8.decode
  simp only [h0, h1.1]
  cases c1 : (decide (i + 1 < s.size) && (s.get! (i + 1)).toNat / 64 == 2) with
  | false => simp only [Bool.and_false, Bool.false_and, Bool.false_eq_true, if_false]
  | true =>
    have e1 := h1.2 c1
    obtain ⟨g2, k2⟩ := h2 c1
    simp only [e1, g2]
    cases c2 : (decide (i + 2 < s.size) && (s.get! (i + 2)).toNat / 64 == 2) with
    | false => simp only [Bool.and_false, Bool.false_and, Bool.false_eq_true, if_false]
    | true =>
      have e2 := k2 c2
      obtain ⟨g3, k3⟩ := h3 c1 c2
      simp only [e2, g3]
      cases c3 : (decide (i + 3 < s.size) && (s.get! (i + 3)).toNat / 64 == 2) with
      | false => simp only [Bool.and_false, Bool.false_eq_true, if_false]
      | true => simp only [k3 c3]

theorem Inner.le {s P : ByteArray} {a : Nat} (h : Inner s P a) : a + s.size ≤ P.size := by rcases h.next with e | e <;> omega
theorem Inner.dec {s P : ByteArray} {a : Nat} (h : Inner s P a) {p : Nat} (hp : p < s.size) : Utf8.decode P (a + p) = Utf8.decode s p := by
  have one : ∀ k, p + k ≤ s.size → (decide (a + p + k < P.size) && (P.get! (a + p + k)).toNat / 64 == 2) = (decide (p + k < s.size) && (s.get! (p + k)).toNat / 64 == 2) ∧ ((decide (p + k < s.size) && (s.get! (p + k)).toNat / 64 == 2) = true → P.get! (a + p + k) = s.get! (p + k)) := by
    intro k hk
    have hs := h.le
    by_cases hlt : p + k < s.size
    · have e : P.get! (a + p + k) = s.get! (p + k) := by rw [Nat.add_assoc]; exact h.byte _ hlt
      rw [e]
      refine ⟨?_, fun _ => rfl⟩
      rw [decide_eq_true (show a + p + k < P.size by omega), decide_eq_true hlt]
    · have e : p + k = s.size := by omega
      rcases h.next with e1 | e1
      · have e2 : P.get! (a + p + k) = 10 := by rw [Nat.add_assoc, e]; exact e1.2
        rw [e2, decide_eq_false hlt]
        refine ⟨by simp, fun h => by simp at h⟩
      · rw [decide_eq_false hlt, decide_eq_false (show ¬ a + p + k < P.size by omega)]
        refine ⟨by simp, fun h => by simp at h⟩
  have lt : ∀ k, (decide (p + k < s.size) && (s.get! (p + k)).toNat / 64 == 2) = true → p + k < s.size := fun k hk => by
    simp only [Bool.and_eq_true, decide_eq_true_eq] at hk; exact hk.1
  refine decode_same (by rw [Nat.add_zero, Nat.add_zero]; exact h.byte p hp) (one 1 (by omega)) (fun c1 => one 2 ?_) (fun c1 c2 => one 3 ?_)
  · have := lt 1 c1; omega
  · have := lt 2 c2; omega
theorem Inner.decR {s P : ByteArray} {a : Nat} (h : Inner s P a) {p : Nat} (hp : p < s.size) : decR P (a + p) = decR s p ∧ decN P (a + p) = decN s p := by
  unfold Go.Proofs.YthhjepgcbfmfeaaGreatDoor.decR decN
  rw [h.dec hp]
  exact ⟨rfl, rfl⟩

/-- runes of s, as they lie in P -/
def ShL (a : Nat) (X Y : List Rn) : Prop := X.length = Y.length ∧ ∀ (j : Nat) (x : Rn), X[j]? = some x → ∃ y : Rn, Y[j]? = some y ∧ y.r = x.r ∧ y.fr = x.fr + a ∧ y.to = x.to + a
theorem Inner.runes {s P : ByteArray} {a : Nat} (h : Inner s P a) : ∀ (k p : Nat) (line col l1 c1 : Int), s.size ≤ p + k → p ≤ s.size →
    ∃ Y l2 c2, restG (Go.Proofs.YthhjepgcbfmfeaaGreatDoor.decR P) P (a + p) l1 c1 = Y ++ restG (Go.Proofs.YthhjepgcbfmfeaaGreatDoor.decR P) P (a + s.size) l2 c2 ∧ ShL a (runesAt (Go.Proofs.YthhjepgcbfmfeaaGreatDoor.decR s) s k p line col) Y
  | 0, p, line, col, l1, c1, hk, hp => by
    have e : p = s.size := by omega
    subst e
    exact ⟨[], l1, c1, rfl, rfl, fun j x hx => by simp [runesAt] at hx⟩
  | k + 1, p, line, col, l1, c1, hk, hp => by
    rw [runesAt]
    by_cases hlt : p < s.size
    · rw [if_pos hlt, restG_cons _ _ _ _ _ (show a + p < P.size by have := h.le; omega), (h.decR hlt).1, (h.decR hlt).2]
      have hpos := decN_pos s p
      have hle := decN_le s p hlt
      obtain ⟨Y, l2, c2, e, h1, h2⟩ := h.runes k (p + decN s p) (nextLine (Go.Proofs.YthhjepgcbfmfeaaGreatDoor.decR s p) line) (nextCol (Go.Proofs.YthhjepgcbfmfeaaGreatDoor.decR s p) col) (nextLine (Go.Proofs.YthhjepgcbfmfeaaGreatDoor.decR s p) l1) (nextCol (Go.Proofs.YthhjepgcbfmfeaaGreatDoor.decR s p) c1) (by omega) (by omega)
      refine ⟨⟨Go.Proofs.YthhjepgcbfmfeaaGreatDoor.decR s p, a + p, a + p + decN s p, l1, c1⟩ :: Y, l2, c2, ?_, ?_, ?_⟩
      · rw [Nat.add_assoc, e]; rfl
      · simp only [List.length_cons, h1]
      · intro j x hx
        cases j with
        | zero =>
          simp only [List.getElem?_cons_zero, Option.some.injEq] at hx
          subst hx
          exact ⟨_, rfl, rfl, Nat.add_comm _ _, by dsimp only; omega⟩
        | succ j => exact h2 j x (by simpa using hx)
    · rw [if_neg hlt]
      have e : p = s.size := by omega
      subst e
      exact ⟨[], l1, c1, rfl, rfl, fun j x hx => by simp at hx⟩

/-- all runes of s lie in L' from rune m on, and a line's end behind them, or nothing -/
structure Shf (s P : ByteArray) (L L' : List Rn) (m a : Nat) : Prop where
  at_ : ∀ (j : Nat) (x : Rn), L[j]? = some x → ∃ y : Rn, L'[j + m]? = some y ∧ y.r = x.r ∧ y.fr = x.fr + a ∧ y.to = x.to + a
  nxt : rAt L' (L.length + m) = 10 ∨ (rAt L' (L.length + m) = -1 ∧ L'.length ≤ L.length + m)
  cut : ∀ f t : Nat, t ≤ s.size → P.extract (f + a) (t + a) = s.extract f t
  ok : ∀ (j : Nat) (x : Rn), L[j]? = some x → x.to ≤ s.size

theorem Shf.lt {s P : ByteArray} {L L' : List Rn} {m a : Nat} (h : Shf s P L L' m a) {j : Nat} (hj : j < L.length) : j + m < L'.length := by
  obtain ⟨y, hy, _⟩ := h.at_ j _ (List.getElem?_eq_getElem hj)
  exact (List.getElem?_eq_some_iff.1 hy).1
theorem Shf.r {s P : ByteArray} {L L' : List Rn} {m a : Nat} (h : Shf s P L L' m a) {j : Nat} (hj : j < L.length) : rAt L' (j + m) = rAt L j := by
  obtain ⟨y, hy, e, _⟩ := h.at_ j _ (List.getElem?_eq_getElem hj)
  rw [rAt_some hy, rAt_some (List.getElem?_eq_getElem hj), e]
theorem Shf.row {s P : ByteArray} {L L' : List Rn} {m a : Nat} (h : Shf s P L L' m a) (q : Int → Bool) (q1 : q (-1) = false) (q2 : q 10 = false) : ∀ (d i : Nat), i + d = L.length → rowE q L' (i + m) = rowE q L i + m
  | 0, i, hd => by
    have e : i = L.length := by omega
    subst e
    have e3 : q (rAt L' (L.length + m)) = false := by
      rcases h.nxt with e | e
      · rw [e]; exact q2
      · rw [e.1]; exact q1
    rw [rowE_no q L _ (by rw [rAt_none (Nat.le_refl _)]; exact q1), rowE_no q L' _ e3]
  | d + 1, i, hd => by
    cases hq : q (rAt L i) with
    | false => rw [rowE_no q L _ hq, rowE_no q L' _ (by rw [h.r (by omega)]; exact hq)]
    | true =>
      rw [rowE_yes q q1 L i hq, rowE_yes q q1 L' (i + m) (by rw [h.r (by omega)]; exact hq), show i + m + 1 = i + 1 + m by omega]
      exact h.row q q1 q2 d (i + 1) (by omega)
theorem Shf.text {s P : ByteArray} {L L' : List Rn} {m a : Nat} (h : Shf s P L L' m a) {i n : Nat} (hi : i < L.length) (hn : i + (n - 1) < L.length) : txt P L' (i + m) n = txt s L i n := by
  obtain ⟨y, hy, _, e1, _⟩ := h.at_ i _ (List.getElem?_eq_getElem hi)
  obtain ⟨z, hz, _, _, e2⟩ := h.at_ (i + (n - 1)) _ (List.getElem?_eq_getElem hn)
  unfold txt
  rw [(at_some hy).2.1, (at_some (List.getElem?_eq_getElem hi)).2.1, show i + m + (n - 1) = i + (n - 1) + m by omega, (at_some hz).2.2.1, (at_some (List.getElem?_eq_getElem hn)).2.2.1, e1, e2]
  exact h.cut _ _ (h.ok _ _ (List.getElem?_eq_getElem hn))

/-- tokens that differ in places alone -/
def Twin2 (x y : Tk) : Prop := y.kind = x.kind ∧ y.text = x.text ∧ y.num = x.num

theorem sign_ten (c : Int) : signN c (-1) = signN c 10 := by unfold signN; simp
theorem Shf.next {s P : ByteArray} {L L' : List Rn} {m a : Nat} (h : Shf s P L L' m a) {i : Nat} (hi : i < L.length) : signN (rAt L' (i + m)) (rAt L' (i + m + 1)) = signN (rAt L i) (rAt L (i + 1)) ∧ digitB (rAt L' (i + m + 1)) = digitB (rAt L (i + 1)) := by
  rw [h.r hi, show i + m + 1 = i + 1 + m by omega]
  by_cases h1 : i + 1 < L.length
  · rw [h.r h1]; exact ⟨rfl, rfl⟩
  · have e : i + 1 = L.length := by omega
    rw [e, rAt_none (Nat.le_refl _)]
    rcases h.nxt with e2 | e2
    · rw [e2, sign_ten]; exact ⟨rfl, rfl⟩
    · rw [e2.1]; exact ⟨rfl, rfl⟩

/-- a token is taken there as it is taken alone -/
theorem Shf.tok {s P : ByteArray} {L L' : List Rn} {m a : Nat} (h : Shf s P L L' m a) {i : Nat} (hi : i < L.length) (T T' : List Tk) (he : (tokT s L i T).er = 0) :
    ∃ x y, (tokT s L i T).T = T ++ [x] ∧ (tokT P L' (i + m) T').T = T' ++ [y] ∧ Twin2 x y ∧ (tokT P L' (i + m) T').er = 0 ∧ (tokT P L' (i + m) T').i = (tokT s L i T).i + m ∧ (tokT s L i T).i ≤ L.length ∧ i < (tokT s L i T).i := by
  unfold tokT at he ⊢
  rw [h.r hi]
  by_cases hl : letterB (rAt L i) = true
  · rw [if_pos hl] at he ⊢
    rw [if_pos hl]
    have hin : innerB (rAt L i) = true := by unfold innerB; rw [hl]; rfl
    have e1 := rowE_yes innerB (by decide) L i hin
    have g1 := rowE_ge innerB L (i + 1)
    have g2 := g1.2 (by omega)
    have hr := h.row innerB (by decide) (by decide) (L.length - i) i (by omega)
    have hw : wordN L' (i + m) = wordN L i := by unfold wordN; rw [hr]; omega
    have hN : 1 ≤ wordN L i ∧ i + wordN L i ≤ L.length := by unfold wordN; omega
    have ht : txt P L' (i + m) (wordN L i) = txt s L i (wordN L i) := h.text hi (by omega)
    unfold wordT at he ⊢
    rw [hw, ht]
    exact ⟨_, _, rfl, rfl, ⟨rfl, rfl, rfl⟩, he, by dsimp only; omega, by dsimp only; omega, by dsimp only; omega⟩
  · rw [if_neg hl] at he ⊢
    rw [if_neg hl]
    have hnum : isNum L' (i + m) = isNum L i := by unfold isNum; rw [h.r hi, (h.next hi).2]
    rw [hnum]
    by_cases hn : isNum L i = true
    · rw [if_pos hn] at he ⊢
      rw [if_pos hn]
      have g1 := rowE_ge digitB L (i + 1)
      have g2 := g1.2 (by omega)
      have hr := h.row digitB (by decide) (by decide) (L.length - (i + 1)) (i + 1) (by omega)
      have hw : numN L' (i + m) = numN L i := by unfold numN; rw [show i + m + 1 = i + 1 + m by omega, hr]; omega
      have hN : 1 ≤ numN L i ∧ i + numN L i ≤ L.length := by unfold numN; omega
      have ht : txt P L' (i + m) (numN L i) = txt s L i (numN L i) := h.text hi (by omega)
      have hv : numVal P L' (i + m) = numVal s L i := by unfold numVal; rw [hw, ht, h.r hi]
      unfold numbT at he ⊢
      rw [hw, ht, hv]
      exact ⟨_, _, rfl, rfl, ⟨rfl, rfl, rfl⟩, he, by dsimp only; omega, by dsimp only; omega, by dsimp only; omega⟩
    · rw [if_neg hn] at he ⊢
      rw [if_neg hn]
      have hsn := (h.next hi).1
      unfold signT at he ⊢
      rw [hsn]
      obtain ⟨n, hn'⟩ : ∃ n, signN (rAt L i) (rAt L (i + 1)) = n := ⟨_, rfl⟩
      have hn2 : n = 0 ∨ n = 1 ∨ (n = 2 ∧ i + 1 < L.length) := by
        rw [← hn']
        unfold signN
        split
        · rename_i q
          refine .inr (.inr ⟨rfl, ?_⟩)
          refine Classical.byContradiction fun hc => ?_
          have := rAt_none (L := L) (i := i + 1) (by omega)
          omega
        · split
          · exact .inr (.inl rfl)
          · exact .inl rfl
      rw [hn'] at he ⊢
      by_cases h0 : n = 0
      · rw [if_pos h0] at he; cases he
      · rw [if_neg h0] at he ⊢
        rw [if_neg h0]
        have ht : txt P L' (i + m) n = txt s L i n := h.text hi (by omega)
        rw [ht]
        exact ⟨_, _, rfl, rfl, ⟨rfl, rfl, rfl⟩, rfl, by dsimp only; omega, by dsimp only; omega, by dsimp only; omega⟩

/-- as many tokens, each the other's twin -/
def TwinL (T U : List Tk) : Prop := T.length = U.length ∧ ∀ (k : Nat) (x y : Tk), T[k]? = some x → U[k]? = some y → Twin2 x y
theorem TwinL.nil : TwinL [] [] := ⟨rfl, fun k x y h => by simp at h⟩
theorem TwinL.snoc {T U : List Tk} {x y : Tk} (h : TwinL T U) (hxy : Twin2 x y) : TwinL (T ++ [x]) (U ++ [y]) := by
  refine ⟨by simp [h.1], fun k a b ha hb => ?_⟩
  by_cases hk : k < T.length
  · rw [List.getElem?_append_left hk] at ha
    rw [List.getElem?_append_left (by rw [← h.1]; exact hk)] at hb
    exact h.2 k a b ha hb
  · rw [List.getElem?_append_right (by omega)] at ha
    rw [List.getElem?_append_right (by rw [← h.1]; omega)] at hb
    have h1 : k - T.length = 0 := by
      have := (List.getElem?_eq_some_iff.1 ha).1
      simp at this; omega
    rw [← h.1, h1] at hb
    rw [h1] at ha
    simp only [List.getElem?_cons_zero, Option.some.injEq] at ha hb
    subst ha; subst hb; exact hxy

/-- a step is there as it is alone -/
theorem Shf.one {s P : ByteArray} {L L' : List Rn} {m a : Nat} (h : Shf s P L L' m a) {i : Nat} (hi : i < L.length) {T T2 : List Tk} (pre : List Tk) (hT : TwinL T T2) (hc : pre.length + T.length < 4096) (he : (oneT s L i T).er = 0) :
    ∃ T3, TwinL (oneT s L i T).T T3 ∧ (oneT s L i T).T.length ≤ T.length + 1 ∧ i < (oneT s L i T).i ∧ (oneT s L i T).i ≤ L.length ∧ (oneT P L' (i + m) (pre ++ T2)).er = 0 ∧ (oneT P L' (i + m) (pre ++ T2)).T = pre ++ T3 ∧ (oneT P L' (i + m) (pre ++ T2)).i = (oneT s L i T).i + m := by
  unfold oneT at he ⊢
  rw [h.r hi]
  by_cases hb : blankB (rAt L i) = true
  · rw [if_pos hb]
    rw [if_pos hb]
    exact ⟨T2, hT, by dsimp only; omega, by dsimp only; omega, by dsimp only; omega, rfl, rfl, by dsimp only; omega⟩
  rw [if_neg hb] at he ⊢
  rw [if_neg hb]
  by_cases h35 : rAt L i = 35
  · rw [if_pos h35] at he ⊢
    rw [if_pos h35]
    have hq : restB (rAt L i) = true := by rw [h35]; decide
    have e1 := rowE_yes restB (by decide) L i hq
    have g1 := rowE_ge restB L (i + 1)
    have g2 := g1.2 (by omega)
    have hr := h.row restB (by decide) (by decide) (L.length - i) i (by omega)
    unfold restT at he ⊢
    rw [hr]
    by_cases hx : rowE restB L i < L.length ∧ rAt L (rowE restB L i) = -1
    · rw [if_pos hx] at he; cases he
    · rw [if_neg hx]
      have hx2 : ¬ (rowE restB L i + m < L'.length ∧ rAt L' (rowE restB L i + m) = -1) := by
        rintro ⟨e0, e⟩
        by_cases hlt : rowE restB L i < L.length
        · rw [h.r hlt] at e; exact hx ⟨hlt, e⟩
        · have e3 : rowE restB L i = L.length := by omega
          rw [e3] at e e0
          rcases h.nxt with e2 | e2
          · rw [e2] at e; omega
          · omega
      rw [if_neg hx2]
      exact ⟨T2, hT, by dsimp only; omega, by dsimp only; omega, by dsimp only; omega, rfl, rfl, rfl⟩
  rw [if_neg h35] at he ⊢
  rw [if_neg h35]
  have he0 : (tokT s L i T).er = 0 := by
    unfold capT at he
    by_cases q : (tokT s L i T).er ≠ 0
    · rw [if_pos q] at he; exact absurd he q
    · omega
  obtain ⟨x, y, e1, e2, hxy, e3, e4, e5, e6⟩ := h.tok hi T (pre ++ T2) he0
  have hl2 := hT.1
  have c1 : capT L i (tokT s L i T) = tokT s L i T := by
    unfold capT
    rw [if_neg (by omega), if_neg (by rw [e1, List.length_append, List.length_singleton]; omega)]
  have c2 : capT L' (i + m) (tokT P L' (i + m) (pre ++ T2)) = tokT P L' (i + m) (pre ++ T2) := by
    unfold capT
    rw [if_neg (by omega), if_neg (by rw [e2, List.length_append, List.length_append, List.length_singleton]; omega)]
  rw [c1, c2]
  exact ⟨T2 ++ [y], by rw [e1]; exact hT.snoc hxy, by rw [e1]; simp, e6, e5, e3, by rw [e2, List.append_assoc], e4⟩

/-- all tokens are there as they are alone -/
theorem Shf.run {s P : ByteArray} {L L' : List Rn} {m a : Nat} (h : Shf s P L L' m a) (pre : List Tk) (hpre : pre.length + L.length < 4096) : ∀ (k i : Nat) (T T2 : List Tk), L.length - i ≤ k → i ≤ L.length → T.length ≤ i → TwinL T T2 → (runT s L k i T).er = 0 → ∀ k', L.length - i ≤ k' →
    ∃ k3 T3, k' ≤ k3 + (L.length - i) ∧ TwinL (runT s L k i T).T T3 ∧ (runT s L k i T).T.length ≤ L.length ∧ runT P L' k' (i + m) (pre ++ T2) = runT P L' k3 (L.length + m) (pre ++ T3)
  | 0, i, T, T2, hk, hi, hl, hT, he, k', hk' => by
    have e : i = L.length := by omega
    subst e
    exact ⟨k', T2, by omega, hT, hl, rfl⟩
  | k + 1, i, T, T2, hk, hi, hl, hT, he, k', hk' => by
    rw [runT] at he ⊢
    by_cases hlt : i < L.length
    · rw [if_pos hlt] at he ⊢
      by_cases q : (oneT s L i T).er ≠ 0
      · rw [if_pos q] at he; exact absurd he q
      rw [if_neg q] at he ⊢
      obtain ⟨T3, h1, h2, h3, h4, h5, h6, h7⟩ := h.one hlt pre hT (by omega) (by omega)
      obtain ⟨k1, rfl⟩ : ∃ q, k' = q + 1 := ⟨k' - 1, by omega⟩
      obtain ⟨k3, T4, g1, g2, g3, g4⟩ := h.run pre hpre k (oneT s L i T).i (oneT s L i T).T T3 (by omega) h4 (by omega) h1 he k1 (by omega)
      refine ⟨k3, T4, by omega, g2, g3, ?_⟩
      rw [runT, if_pos (h.lt hlt), if_neg (by omega), h6, h7]
      exact g4
    · rw [if_neg hlt] at he ⊢
      have e : i = L.length := by omega
      subst e
      exact ⟨k', T2, by omega, hT, hl, rfl⟩

/-- .. whatever stands ahead: else there are too many tokens -/
theorem Shf.one_cap {s P : ByteArray} {L L' : List Rn} {m a : Nat} (h : Shf s P L L' m a) {i : Nat} (hi : i < L.length) {T T2 : List Tk} (pre : List Tk) (hT : TwinL T T2) (he : (oneT s L i T).er = 0) :
    (∃ T3, TwinL (oneT s L i T).T T3 ∧ (oneT s L i T).T.length ≤ T.length + 1 ∧ i < (oneT s L i T).i ∧ (oneT s L i T).i ≤ L.length ∧ (oneT P L' (i + m) (pre ++ T2)).er = 0 ∧ (oneT P L' (i + m) (pre ++ T2)).T = pre ++ T3 ∧ (oneT P L' (i + m) (pre ++ T2)).i = (oneT s L i T).i + m) ∨
    (oneT P L' (i + m) (pre ++ T2)).er = 3 := by
  by_cases hc : pre.length + T.length < 4096
  · exact .inl (h.one hi pre hT hc he)
  by_cases hb : blankB (rAt L i) = true
  · refine .inl ?_
    unfold oneT at he ⊢
    rw [h.r hi, if_pos hb, if_pos hb]
    exact ⟨T2, hT, by dsimp only; omega, by dsimp only; omega, by dsimp only; omega, rfl, rfl, by dsimp only; omega⟩
  by_cases h35 : rAt L i = 35
  · -- a note takes no token: as where there is room
    refine .inl ?_
    have hq : restB (rAt L i) = true := by rw [h35]; decide
    have e1 := rowE_yes restB (by decide) L i hq
    have g1 := rowE_ge restB L (i + 1)
    have g2 := g1.2 (by omega)
    have hr := h.row restB (by decide) (by decide) (L.length - i) i (by omega)
    unfold oneT at he ⊢
    rw [h.r hi]
    rw [if_neg hb, if_pos h35] at he ⊢
    rw [if_neg hb, if_pos h35]
    unfold restT at he ⊢
    rw [hr]
    by_cases hx : rowE restB L i < L.length ∧ rAt L (rowE restB L i) = -1
    · rw [if_pos hx] at he; cases he
    · rw [if_neg hx]
      have hx2 : ¬ (rowE restB L i + m < L'.length ∧ rAt L' (rowE restB L i + m) = -1) := by
        rintro ⟨e0, e⟩
        by_cases hlt : rowE restB L i < L.length
        · rw [h.r hlt] at e; exact hx ⟨hlt, e⟩
        · have e3 : rowE restB L i = L.length := by omega
          rw [e3] at e e0
          rcases h.nxt with e2 | e2
          · rw [e2] at e; omega
          · omega
      rw [if_neg hx2]
      exact ⟨T2, hT, by dsimp only; omega, by dsimp only; omega, by dsimp only; omega, rfl, rfl, rfl⟩
  · refine .inr ?_
    unfold oneT at he ⊢
    rw [h.r hi]
    rw [if_neg hb, if_neg h35] at he
    rw [if_neg hb, if_neg h35]
    have he0 : (tokT s L i T).er = 0 := by
      unfold capT at he
      by_cases q : (tokT s L i T).er ≠ 0
      · rw [if_pos q] at he; exact absurd he q
      · omega
    obtain ⟨x, y, e1, e2, hxy, e3, e4, e5, e6⟩ := h.tok hi T (pre ++ T2) he0
    have hl2 := hT.1
    unfold capT
    rw [if_neg (by omega), if_pos (by rw [e2, List.length_append, List.length_append, List.length_singleton]; omega)]
theorem Shf.run_cap {s P : ByteArray} {L L' : List Rn} {m a : Nat} (h : Shf s P L L' m a) (pre : List Tk) : ∀ (k i : Nat) (T T2 : List Tk), L.length - i ≤ k → i ≤ L.length → TwinL T T2 → (runT s L k i T).er = 0 → ∀ k', L.length - i ≤ k' →
    (∃ k3 T3, k' ≤ k3 + (L.length - i) ∧ TwinL (runT s L k i T).T T3 ∧ runT P L' k' (i + m) (pre ++ T2) = runT P L' k3 (L.length + m) (pre ++ T3)) ∨ (runT P L' k' (i + m) (pre ++ T2)).er = 3
  | 0, i, T, T2, hk, hi, hT, he, k', hk' => by
    have e : i = L.length := by omega
    subst e
    exact .inl ⟨k', T2, by omega, hT, rfl⟩
  | k + 1, i, T, T2, hk, hi, hT, he, k', hk' => by
    rw [runT] at he ⊢
    by_cases hlt : i < L.length
    · rw [if_pos hlt] at he ⊢
      by_cases q : (oneT s L i T).er ≠ 0
      · rw [if_pos q] at he; exact absurd he q
      rw [if_neg q] at he ⊢
      obtain ⟨k1, rfl⟩ : ∃ q, k' = q + 1 := ⟨k' - 1, by omega⟩
      rcases h.one_cap hlt pre hT (by omega) with ⟨T3, h1, h2, h3, h4, h5, h6, h7⟩ | h3
      · rcases h.run_cap pre k (oneT s L i T).i (oneT s L i T).T T3 (by omega) h4 h1 he k1 (by omega) with ⟨k3, T4, g1, g2, g4⟩ | g
        · refine .inl ⟨k3, T4, by omega, g2, ?_⟩
          rw [runT, if_pos (h.lt hlt), if_neg (by omega), h6, h7]
          exact g4
        · refine .inr ?_
          rw [runT, if_pos (h.lt hlt), if_neg (by omega), h6, h7]
          exact g
      · refine .inr ?_
        rw [runT, if_pos (h.lt hlt), if_pos (by omega)]
        exact h3
    · rw [if_neg hlt] at he ⊢
      have e : i = L.length := by omega
      subst e
      exact .inl ⟨k', T2, by omega, hT, rfl⟩

end Go.Proofs.YthhjepgcbfmfeaaGreatDoor

namespace Go.Proofs.YthhjepgcbfmfeaaGreatDoor
open Go.RowKit

/-- an item of a formula -/
structure It where
  op : Int
  ln : ByteArray
  lnum : Int
  rn : ByteArray
  rnum : Int
  name : ByteArray
  user : ByteArray
  line : Int
  col : Int
def itCells (x : It) : List Value := [.int .i64 x.op, .string x.ln, .int .i64 x.lnum, .string x.rn, .int .i64 x.rnum, .string x.name, .string x.user, .int .i64 x.line, .int .i64 x.col]
def itFlat (l : List It) : List Value := l.flatMap itCells
theorem itFlat_len (l : List It) : (itFlat l).length = l.length * 9 := by
  induction l with
  | nil => rfl
  | cons x r ih => simp only [itFlat, List.flatMap_cons, List.length_append, List.length_cons] at *; rw [ih]; simp [itCells]; omega
theorem itFlat_snoc (l : List It) (x : It) : itFlat (l ++ [x]) = itFlat l ++ itCells x := by simp [itFlat]
theorem itFlat_cons (x : It) (l : List It) : itFlat (x :: l) = itCells x ++ itFlat l := by simp [itFlat]
theorem itFlat_get (l : List It) (i j : Nat) (x : It) (hx : l[i]? = some x) (hj : j < 9) : (itFlat l)[i * 9 + j]? = (itCells x)[j]? := by
  induction l generalizing i with
  | nil => simp at hx
  | cons y r ih =>
    rw [itFlat_cons]
    cases i with
    | zero =>
      simp only [List.getElem?_cons_zero, Option.some.injEq] at hx
      subst hx
      rw [Nat.zero_mul, Nat.zero_add, List.getElem?_append_left (by simp [itCells]; omega)]
    | succ i =>
      rw [List.getElem?_append_right (by simp [itCells]; omega)]
      rw [show (i + 1) * 9 + j - (itCells y).length = i * 9 + j by simp [itCells]; omega]
      exact ih i (by simpa using hx)

/-- what no token is: the end -/
def noTk : Tk := ⟨5, ⟨#[]⟩, 0, 0, 0⟩
/-- the token at a place, behind the last one the end -/
def tkAt (T : List Tk) (i : Int) : Tk := if i < 0 then noTk else match T[i.toNat]? with | some x => x | none => noTk
def isTk (T : List Tk) (i : Int) (kind : Int) (s : ByteArray) : Bool := decide ((tkAt T i).kind = kind) && decide ((tkAt T i).text = s)

/-- what was read: items, and the token behind; or what is wrong, and where -/
inductive PR where
  | ok (out : List It) (at_ : Int)
  | bad (er line col : Int)

def badP (T : List Tk) (i : Int) (er : Int) : PR := .bad er (tkAt T i).line (tkAt T i).col
def PR.also (p : PR) (f : List It → Int → PR) : PR := match p with | .ok o a => f o a | .bad e l c => .bad e l c
def item (op : Int) (t : Tk) : It := ⟨op, ⟨#[]⟩, 0, ⟨#[]⟩, 0, ⟨#[]⟩, ⟨#[]⟩, t.line, t.col⟩

/-- a row of formulas with a word between each two, of which the first one is read -/
def rowP (T : List Tk) (one : Int → PR) (wd : ByteArray) (op : Int) : Nat → Int → List It → PR
  | 0, i, out => .ok out i
  | k + 1, i, out => if isTk T i 2 wd then (one (i + 1)).also fun o a => rowP T one wd op k a (out ++ o ++ [item op (tkAt T i)]) else .ok out i
def rowsP (T : List Tk) (one : Int → PR) (wd : ByteArray) (op : Int) (i : Int) : PR := (one i).also fun o a => rowP T one wd op (T.length + 1) a o

def wAnd : ByteArray := ⟨#[97, 110, 100]⟩
def wOr : ByteArray := ⟨#[111, 114]⟩
def wImplies : ByteArray := ⟨#[105, 109, 112, 108, 105, 101, 115]⟩
def wNot : ByteArray := ⟨#[110, 111, 116]⟩
def wOpen : ByteArray := ⟨#[111, 112, 101, 110]⟩
def wDone : ByteArray := ⟨#[100, 111, 110, 101]⟩
def wTrue : ByteArray := ⟨#[116, 114, 117, 101]⟩
def wFalse : ByteArray := ⟨#[102, 97, 108, 115, 101]⟩
def wCan : ByteArray := ⟨#[99, 97, 110]⟩
def wDid : ByteArray := ⟨#[100, 105, 100]⟩
def wComplete : ByteArray := ⟨#[99, 111, 109, 112, 108, 101, 116, 101]⟩
def wStuck : ByteArray := ⟨#[115, 116, 117, 99, 107]⟩
def wA : ByteArray := ⟨#[65]⟩
def wE : ByteArray := ⟨#[69]⟩
def wU : ByteArray := ⟨#[85]⟩
def sOpen : ByteArray := ⟨#[40]⟩
def sClose : ByteArray := ⟨#[41]⟩
def sBegin : ByteArray := ⟨#[91]⟩
def sEnd : ByteArray := ⟨#[93]⟩

/-- the Op of a word that is put ahead; 0: it is none -/
def tempN (s : ByteArray) : Int :=
  if s = ⟨#[65, 88]⟩ then 19 else if s = ⟨#[69, 88]⟩ then 20 else if s = ⟨#[65, 70]⟩ then 21 else if s = ⟨#[69, 70]⟩ then 22 else if s = ⟨#[65, 71]⟩ then 23 else if s = ⟨#[69, 71]⟩ then 24 else 0
/-- the Op of a sign of a comparison; 0: it is none -/
def compN (T : List Tk) (i : Int) : Int :=
  if (tkAt T i).kind ≠ 4 then 0
  else if (tkAt T i).text = ⟨#[60]⟩ then 3 else if (tkAt T i).text = ⟨#[60, 61]⟩ then 4 else if (tkAt T i).text = ⟨#[62]⟩ then 5 else if (tkAt T i).text = ⟨#[62, 61]⟩ then 6 else if (tkAt T i).text = ⟨#[61]⟩ then 7 else if (tkAt T i).text = ⟨#[33, 61]⟩ then 8 else 0

def isWord (t : Tk) : Bool := decide (t.kind = 1) || decide (t.kind = 3)
def wordName (t : Tk) : ByteArray := if t.kind = 1 then t.text else ⟨#[]⟩
def wordNum (t : Tk) : Int := if t.kind = 1 then 0 else t.num
def compP (T : List Tk) (i : Int) : PR :=
  if isWord (tkAt T i) then
    (if compN T (i + 1) = 0 then badP T (i + 1) 4
    else if isWord (tkAt T (i + 2)) then .ok [⟨compN T (i + 1), wordName (tkAt T i), wordNum (tkAt T i), wordName (tkAt T (i + 2)), wordNum (tkAt T (i + 2)), ⟨#[]⟩, ⟨#[]⟩, (tkAt T i).line, (tkAt T i).col⟩] (i + 3)
    else badP T (i + 2) 4)
  else badP T i 4
def namedP (T : List Tk) (i : Int) (op : Int) : PR :=
  if (tkAt T (i + 1)).kind = 1 then .ok [⟨op, ⟨#[]⟩, 0, ⟨#[]⟩, 0, (tkAt T (i + 1)).text, ⟨#[]⟩, (tkAt T (i + 1)).line, (tkAt T (i + 1)).col⟩] (i + 2) else badP T (i + 1) 4
def didP (T : List Tk) (i : Int) : PR :=
  if (tkAt T (i + 1)).kind = 1 then
    (if (tkAt T (i + 2)).kind = 1 then .ok [⟨12, ⟨#[]⟩, 0, ⟨#[]⟩, 0, (tkAt T (i + 2)).text, (tkAt T (i + 1)).text, (tkAt T (i + 1)).line, (tkAt T (i + 1)).col⟩] (i + 3) else badP T (i + 2) 4)
  else badP T (i + 1) 4
def atomP (T : List Tk) (prop : Bool) (i : Int) : PR :=
  if (tkAt T i).text = wOpen then namedP T i 9
  else if (tkAt T i).text = wDone then namedP T i 10
  else if (tkAt T i).text = wTrue then .ok [item 1 (tkAt T i)] (i + 1)
  else if (tkAt T i).text = wFalse then .ok [item 2 (tkAt T i)] (i + 1)
  else if prop = false then badP T i 4
  else if (tkAt T i).text = wCan then namedP T i 11
  else if (tkAt T i).text = wDid then didP T i
  else if (tkAt T i).text = wComplete then .ok [item 13 (tkAt T i)] (i + 1)
  else if (tkAt T i).text = wStuck then .ok [item 14 (tkAt T i)] (i + 1)
  else badP T i 4

def needP (T : List Tk) (i : Int) (kind : Int) (s : ByteArray) (f : Int → PR) : PR := if isTk T i kind s then f (i + 1) else badP T i 4
/-- A or E, and what stands in brackets -/
def untilP (T : List Tk) (form : Int → PR) (op i : Int) : PR :=
  needP T (i + 1) 4 sBegin fun a => (form a).also fun o1 b => needP T b 2 wU fun c => (form c).also fun o2 d => needP T d 4 sEnd fun e => .ok (o1 ++ o2 ++ [item op (tkAt T i)]) e
/-- a sign, over what signs and formulas are one deeper -/
def signP (T : List Tk) (prop : Bool) (sg form : Int → PR) (i : Int) : PR :=
  if isTk T i 4 sOpen then (form (i + 1)).also fun o a => needP T a 4 sClose fun b => .ok o b
  else if (tkAt T i).kind ≠ 2 then compP T i
  else if (tkAt T i).text = wNot then (sg (i + 1)).also fun o a => .ok (o ++ [item 15 (tkAt T i)]) a
  else if prop = false ∧ (tempN (tkAt T i).text > 0 ∨ (tkAt T i).text = wA ∨ (tkAt T i).text = wE) then badP T i 4
  else if (tkAt T i).text = wA then untilP T form 25 i
  else if (tkAt T i).text = wE then untilP T form 26 i
  else if tempN (tkAt T i).text = 0 then atomP T prop i
  else (sg (i + 1)).also fun o a => .ok (o ++ [item (tempN (tkAt T i).text) (tkAt T i)]) a
/-- a formula, over what a sign is, and what a formula one deeper is -/
def formP (T : List Tk) (sg form : Int → PR) (i : Int) : PR :=
  (rowsP T (rowsP T sg wAnd 16) wOr 17 i).also fun o a =>
    if isTk T a 2 wImplies then (form (a + 1)).also fun o2 b => .ok (o ++ o2 ++ [item 18 (tkAt T a)]) b else .ok o a
/-- signs and formulas that may be so many deep -/
def bothP (T : List Tk) (prop : Bool) : Nat → (Int → PR) × (Int → PR)
  | 0 => (fun i => badP T i 5, fun i => badP T i 5)
  | n + 1 => (signP T prop (bothP T prop n).1 (bothP T prop n).2, formP T (signP T prop (bothP T prop n).1 (bothP T prop n).2) (bothP T prop n).2)

end Go.Proofs.YthhjepgcbfmfeaaGreatDoor
