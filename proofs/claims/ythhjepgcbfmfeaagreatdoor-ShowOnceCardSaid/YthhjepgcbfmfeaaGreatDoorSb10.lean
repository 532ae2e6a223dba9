/- Plain: the texts of tokens, a blank between each two, have the same tokens, but for places. -/
import Derived.Test.YthhjepgcbfmfeaaGreatDoorSb09

namespace Go.Proofs.YthhjepgcbfmfeaaGreatDoor
open Go.RowKit

/-- a text of ASCII, as bytes -/
def AsciiT (P : ByteArray) : Prop := ∀ (k : Nat) (h : k < P.size), (P[k]'h).toNat < 128

theorem decode_ascii (P : ByteArray) (p : Nat) (hp : p < P.size) (h : (P[p]'hp).toNat < 128) : decR P p = ((P[p]'hp).toNat : Int) ∧ decN P p = 1 := by
  have hg : P.get! (p + 0) = P[p]'hp := by
    simp [ByteArray.get!, ByteArray.getElem_eq_getElem_data, getElem!_pos, hp]
  have hb : (P.get! (p + 0)).toNat < 128 → Utf8.decode P p = ((P.get! (p + 0)).toNat, 1) := by
    intro h; unfold Utf8.decode; simp only; rw [if_pos h]
  have hd : Utf8.decode P p = ((P[p]'hp).toNat, 1) := by rw [hb (by rw [hg]; exact h), hg]
  unfold decR decN
  rw [hd]
  refine ⟨?_, rfl⟩
  rw [if_neg (by omega)]

theorem restG_ascii (P : ByteArray) (hP : AsciiT P) (k p : Nat) (line col : Int) (hk : P.size ≤ p + k) (hp : p ≤ P.size) :
    (runesAt (decR P) P k p line col).length = P.size - p ∧ ∀ j, j < P.size - p → rAt (runesAt (decR P) P k p line col) j = (if h : p + j < P.size then ((P[p + j]'h).toNat : Int) else -1) := by
  induction k generalizing p line col with
  | zero => exact ⟨by simp [runesAt]; omega, fun j hj => by omega⟩
  | succ k ih =>
    simp only [runesAt]
    by_cases hlt : p < P.size
    · rw [if_pos hlt]
      obtain ⟨h1, h2⟩ := decode_ascii P p hlt (hP p hlt)
      rw [h2]
      obtain ⟨a, b⟩ := ih (p + 1) (nextLine (decR P p) line) (nextCol (decR P p) col) (by omega) (by omega)
      refine ⟨by rw [List.length_cons, a]; omega, fun j hj => ?_⟩
      cases j with
      | zero =>
        rw [dif_pos (by omega)]
        show decR P p = _
        rw [h1]; rfl
      | succ j =>
        have := b j (by omega)
        have e : rAt (⟨decR P p, p, p + 1, line, col⟩ :: runesAt (decR P) P k (p + 1) (nextLine (decR P p) line) (nextCol (decR P p) col)) (j + 1) = rAt (runesAt (decR P) P k (p + 1) (nextLine (decR P p) line) (nextCol (decR P p) col)) j := by
          unfold rAt; rw [List.getElem?_cons_succ]
        rw [e, this]
        simp only [show p + 1 + j = p + (j + 1) by omega]
    · rw [if_neg hlt]; exact ⟨by simp; omega, fun j hj => by omega⟩

theorem allR_ascii (P : ByteArray) (hP : AsciiT P) : (allR P).length = P.size ∧ ∀ (j : Nat) (h : j < P.size), rAt (allR P) j = ((P[j]'h).toNat : Int) := by
  obtain ⟨a, b⟩ := restG_ascii P hP (P.size - 0) 0 1 1 (by omega) (by omega)
  refine ⟨a, fun j h => ?_⟩
  have := b j (by omega)
  rw [dif_pos (by omega)] at this
  unfold allR restG
  rw [this]
  simp only [Nat.zero_add]

/-- a token's text stands among the runes from i on, n runes of it, ASCII -/
structure Stands (L : List Rn) (i n : Nat) (t : List UInt8) : Prop where
  len : t.length = n
  inside : i + n ≤ L.length
  same : ∀ (k : Nat) (b : UInt8), t[k]? = some b → rAt L (i + k) = (b.toNat : Int)
  ascii : ∀ b ∈ t, b.toNat < 128

theorem txt_of {s : ByteArray} {L : List Rn} {i n : Nat} {t : List UInt8} (hO : RnOk s L) (h : Stands L i n t) (hn : 1 ≤ n) : (txt s L i n).data.toList = t := by
  have hasc : ∀ k, k < n → 0 ≤ rAt L (i + k) ∧ rAt L (i + k) < 128 := by
    intro k hk
    have hk2 : k < t.length := by rw [h.len]; exact hk
    have := h.same k t[k] (List.getElem?_eq_getElem hk2)
    have h2 := h.ascii t[k] (List.getElem_mem hk2)
    omega
  have hin : ∀ k, k < n → i + k < L.length := fun k hk => by have := h.inside; omega
  have hs := hO.txtSize i n hasc hin hn
  have hb := hO.txtByte i n hasc hin hn
  apply List.ext_getElem?
  intro k
  by_cases hk : k < n
  · have hk1 : k < (txt s L i n).size := by omega
    have hk2 : k < t.length := by rw [h.len]; exact hk
    have hk3 : k < (txt s L i n).data.toList.length := by simpa using hk1
    rw [List.getElem?_eq_getElem hk3, List.getElem?_eq_getElem hk2]
    have e1 := hb k hk1
    have e2 := h.same k t[k] (List.getElem?_eq_getElem hk2)
    have e3 : ((txt s L i n)[k]'hk1).toNat = t[k].toNat := by omega
    have e4 : (txt s L i n)[k]'hk1 = t[k] := UInt8.toNat_inj.1 e3
    congr 1
  · rw [List.getElem?_eq_none (by simp; omega), List.getElem?_eq_none (by rw [h.len]; omega)]

theorem stands_of {s : ByteArray} {L : List Rn} {i n : Nat} (hO : RnOk s L) (hn : 1 ≤ n) (hasc : ∀ k, k < n → 0 ≤ rAt L (i + k) ∧ rAt L (i + k) < 128) (hin : ∀ k, k < n → i + k < L.length) : Stands L i n (txt s L i n).data.toList := by
  have hs := hO.txtSize i n hasc hin hn
  have hb := hO.txtByte i n hasc hin hn
  have key : ∀ (k : Nat) (b : UInt8), (txt s L i n).data.toList[k]? = some b → rAt L (i + k) = (b.toNat : Int) := by
    intro k b hk
    have hkl := (List.getElem?_eq_some_iff.1 hk).1
    have hk1 : k < (txt s L i n).size := by simpa using hkl
    have := hb k hk1
    rw [List.getElem?_eq_getElem hkl] at hk
    have e := Option.some.inj hk
    rw [← e]
    exact this.symm
  refine ⟨by simpa using hs, by have := hin (n - 1) (by omega); omega, key, ?_⟩
  intro b hb2
  obtain ⟨k, hk⟩ := List.getElem?_of_mem hb2
  have h1 := key k b hk
  have hkl := (List.getElem?_eq_some_iff.1 hk).1
  have hk1 : k < n := by have : k < (txt s L i n).size := by simpa using hkl
                         omega
  have := hasc k hk1
  omega

theorem row_move {q : Int → Bool} (hq : q (-1) = false) {L : List Rn} {i n : Nat} (h1 : ∀ k, k < n → q (rAt L (i + k)) = true) (h2 : q (rAt L (i + n)) = false) : rowE q L i = i + n := by
  induction n generalizing i with
  | zero => exact rowE_no q L i h2
  | succ n ih =>
    rw [rowE_yes q hq L i (by have := h1 0 (by omega); rwa [Nat.add_zero] at this), ih (i := i + 1) (fun k hk => by have := h1 (k + 1) (by omega); rwa [show i + (k + 1) = i + 1 + k by omega] at this) (by rwa [show i + 1 + n = i + (n + 1) by omega])]
    omega

/-- a token that was taken is taken again wherever its text stands with a blank behind it -/
structure Again (x : Tk) : Prop where
  ne : 0 < x.text.size
  asc : ∀ b ∈ x.text.data.toList, b.toNat < 128
  take : ∀ (s : ByteArray) (L : List Rn) (i : Nat) (T : List Tk), RnOk s L → Stands L i x.text.size x.text.data.toList → i + x.text.size < L.length → rAt L (i + x.text.size) = 32 →
    (blankB (rAt L i) = false ∧ rAt L i ≠ 35) ∧ (tokT s L i T).er = 0 ∧ (tokT s L i T).i = i + x.text.size ∧ ∃ y, (tokT s L i T).T = T ++ [y] ∧ y.kind = x.kind ∧ y.text = x.text ∧ y.num = x.num

theorem stands_at {L L' : List Rn} {i i' n : Nat} {t : List UInt8} (h : Stands L i n t) (h' : Stands L' i' n t) {k : Nat} (hk : k < n) : rAt L (i + k) = rAt L' (i' + k) := by
  have hk2 : k < t.length := by rw [h.len]; exact hk
  rw [h.same k t[k] (List.getElem?_eq_getElem hk2), h'.same k t[k] (List.getElem?_eq_getElem hk2)]

theorem text_ext {t t' : ByteArray} (h : t.data.toList = t'.data.toList) : t = t' := ByteArray.ext (Array.ext' h)

theorem again_word {s : ByteArray} {L : List Rn} {i : Nat} (hO : RnOk s L) (hi : i < L.length) (hl : letterB (rAt L i) = true) (he : wordErr (txt s L i (wordN L i)) = 0) :
    Again ⟨wordKind (txt s L i (wordN L i)), txt s L i (wordN L i), 0, lineAt L i, colAt L i⟩ := by
  have hin : innerB (rAt L i) = true := by unfold innerB; rw [hl]; rfl
  obtain ⟨h1, h2, h3⟩ := row_facts (q := innerB) (by decide) hi hin
  have hst := stands_of hO h1 (fun k hk => inner_ascii (h3 k hk)) h2
  have hsz : (txt s L i (wordN L i)).size = wordN L i := (word_text hO hi hl).1
  refine ⟨by show 0 < (txt s L i (wordN L i)).size; rw [hsz]; exact h1, hst.ascii, ?_⟩
  intro s' L' i' T hO' hst' hlen hb
  show _ ∧ _
  simp only at hst' hlen hb ⊢
  rw [hsz] at hst' hlen hb ⊢
  have same : ∀ k, k < wordN L i → rAt L' (i' + k) = rAt L (i + k) := fun k hk => (stands_at hst hst' hk).symm
  have h0 : rAt L' i' = rAt L i := by have := same 0 h1; rwa [Nat.add_zero, Nat.add_zero] at this
  have hrow : rowE innerB L' i' = i' + wordN L i := row_move (by decide) (fun k hk => by rw [same k hk]; exact h3 k hk) (by rw [hb]; decide)
  have hwn : wordN L' i' = wordN L i := by unfold wordN at *; rw [hrow]; omega
  have htx : txt s' L' i' (wordN L i) = txt s L i (wordN L i) := text_ext (txt_of hO' hst' h1)
  have hl' : letterB (rAt L' i') = true := by rw [h0]; exact hl
  refine ⟨⟨?_, ?_⟩, ?_⟩
  · have := inner_ascii hin
    rw [h0]; unfold blankB; unfold letterB smallB greatB at hl; simp at hl; exact decide_eq_false (by omega)
  · rw [h0]; unfold letterB smallB greatB at hl; simp at hl; omega
  · unfold tokT
    rw [if_pos hl']
    unfold wordT
    rw [hwn, htx]
    exact ⟨he, rfl, _, rfl, rfl, rfl, rfl⟩

theorem again_num {s : ByteArray} {L : List Rn} {i : Nat} (hO : RnOk s L) (hi : i < L.length) (hn : isNum L i = true) (hv : (numVal s L i).2 = true) :
    Again ⟨3, txt s L i (numN L i), (numVal s L i).1, lineAt L i, colAt L i⟩ := by
  have h1 : 1 ≤ numN L i := by unfold numN; have := rowE_ge digitB L (i + 1); omega
  have hle : ∀ k, k < numN L i → i + k < L.length := by
    intro k hk; unfold numN at hk; have := (rowE_ge digitB L (i + 1)).2 (by omega); omega
  have hdig : ∀ k, 1 ≤ k → k < numN L i → digitB (rAt L (i + k)) = true := by
    intro k hk1 hk; unfold numN at hk
    exact rowE_all digitB L (i + 1) (i + k) (by omega) (by omega)
  have h0r : digitB (rAt L i) = true ∨ (rAt L i = 45 ∧ digitB (rAt L (i + 1)) = true) := by
    unfold isNum at hn; simp at hn; exact hn
  have hasc : ∀ k, k < numN L i → 0 ≤ rAt L (i + k) ∧ rAt L (i + k) < 128 := by
    intro k hk
    cases k with
    | zero =>
      rw [Nat.add_zero]
      rcases h0r with h | h
      · have := digit_ascii h; omega
      · omega
    | succ k => have := digit_ascii (hdig (k + 1) (by omega) hk); omega
  have hst := stands_of hO h1 hasc hle
  have hsz := hO.txtSize i (numN L i) hasc hle h1
  refine ⟨by show 0 < (txt s L i (numN L i)).size; rw [hsz]; exact h1, hst.ascii, ?_⟩
  intro s' L' i' T hO' hst' hlen hb
  simp only at hst' hlen hb ⊢
  rw [hsz] at hst' hlen hb ⊢
  have same : ∀ k, k < numN L i → rAt L' (i' + k) = rAt L (i + k) := fun k hk => (stands_at hst hst' hk).symm
  have h0 : rAt L' i' = rAt L i := by have := same 0 h1; rwa [Nat.add_zero, Nat.add_zero] at this
  have hrow : rowE digitB L' (i' + 1) = i' + 1 + (numN L i - 1) := row_move (by decide) (fun k hk => by rw [show i' + 1 + k = i' + (k + 1) by omega, same (k + 1) (by omega)]; exact hdig (k + 1) (by omega) (by omega)) (by rw [show i' + 1 + (numN L i - 1) = i' + numN L i by omega, hb]; decide)
  have hwn : numN L' i' = numN L i := by
    have : numN L' i' = rowE digitB L' (i' + 1) - i' := rfl
    rw [this, hrow]; omega
  have htx : txt s' L' i' (numN L i) = txt s L i (numN L i) := text_ext (txt_of hO' hst' h1)
  have hn45 : rAt L i = 45 → 2 ≤ numN L i := by
    intro e
    rcases h0r with h | h
    · have := digit_ascii h; omega
    · have := rowE_yes digitB (by decide) L (i + 1) h.2
      have h2 := rowE_ge digitB L (i + 1 + 1)
      unfold numN; omega
  have hn' : isNum L' i' = true := by
    unfold isNum
    rw [h0]
    rcases h0r with h | ⟨h, hd⟩
    · rw [h]; rfl
    · rw [same 1 (by have := hn45 h; omega), hd, decide_eq_true h]; simp
  have hl' : letterB (rAt L' i') = false := by
    rw [h0]
    rcases h0r with h | h
    · have := digit_ascii h
      unfold letterB smallB greatB; simp; omega
    · rw [h.1]; decide
  have hval : numVal s' L' i' = numVal s L i := by unfold numVal; rw [hwn, htx, h0]
  have hc : blankB (rAt L i) = false ∧ rAt L i ≠ 35 := by
    rcases h0r with h | h
    · have := digit_ascii h
      exact ⟨by unfold blankB; exact decide_eq_false (by omega), by omega⟩
    · rw [h.1]; exact ⟨by decide, by omega⟩
  refine ⟨by rw [h0]; exact hc, ?_⟩
  unfold tokT
  rw [if_neg (by rw [hl']; simp), if_pos hn']
  unfold numbT
  rw [hwn, htx, hval]
  exact ⟨if_pos hv, rfl, _, rfl, rfl, rfl, rfl⟩

theorem again_sign {s : ByteArray} {L : List Rn} {i : Nat} (hO : RnOk s L) (hi : i < L.length) (hz : signN (rAt L i) (rAt L (i + 1)) ≠ 0) :
    Again ⟨4, txt s L i (signN (rAt L i) (rAt L (i + 1))), 0, lineAt L i, colAt L i⟩ := by
  obtain ⟨hasc, hle⟩ := sign_ascii hi hz
  have h1 : 1 ≤ signN (rAt L i) (rAt L (i + 1)) := by omega
  have hasc' : ∀ k, k < signN (rAt L i) (rAt L (i + 1)) → 0 ≤ rAt L (i + k) ∧ rAt L (i + k) < 128 := fun k hk => by have := hasc k hk; omega
  have hst := stands_of hO h1 hasc' hle
  have hsz := hO.txtSize i _ hasc' hle h1
  obtain ⟨n, hn⟩ : ∃ n, signN (rAt L i) (rAt L (i + 1)) = n := ⟨_, rfl⟩
  rw [hn] at hsz hasc hle hasc' hst h1 ⊢
  refine ⟨by show 0 < (txt s L i n).size; rw [hsz]; exact h1, hst.ascii, ?_⟩
  intro s' L' i' T hO' hst' hlen hb
  simp only at hst' hlen hb ⊢
  rw [hsz] at hst' hlen hb ⊢
  have same : ∀ k, k < n → rAt L' (i' + k) = rAt L (i + k) := fun k hk => (stands_at hst hst' hk).symm
  have h0 : rAt L' i' = rAt L i := by have := same 0 h1; rwa [Nat.add_zero, Nat.add_zero] at this
  have htx : txt s' L' i' n = txt s L i n := text_ext (txt_of hO' hst' h1)
  have hset : rAt L i = 60 ∨ rAt L i = 62 ∨ rAt L i = 33 ∨ rAt L i = 61 ∨ rAt L i = 40 ∨ rAt L i = 41 ∨ rAt L i = 91 ∨ rAt L i = 93 ∨ rAt L i = 44 ∨ rAt L i = 59 := by
    unfold signN at hn
    split at hn
    · rename_i h; omega
    · split at hn
      · rename_i h; omega
      · omega
  have hsn : signN (rAt L' i') (rAt L' (i' + 1)) = n := by
    rw [h0]
    unfold signN at hn ⊢
    by_cases hq : (rAt L i = 60 ∨ rAt L i = 62 ∨ rAt L i = 33) ∧ rAt L (i + 1) = 61
    · rw [if_pos hq] at hn
      have e1 := same 1 (by omega)
      rw [if_pos ⟨hq.1, by rw [e1]; exact hq.2⟩]; exact hn
    · rw [if_neg hq] at hn
      split at hn
      · rename_i hone
        have hb1 : rAt L' (i' + 1) = 32 := by rw [← hn] at hb; exact hb
        rw [if_neg (by rw [hb1]; omega), if_pos hone]; exact hn
      · omega
  have hl' : letterB (rAt L' i') = false := by
    rw [h0]; unfold letterB smallB greatB; simp; omega
  have hn' : isNum L' i' = false := by
    unfold isNum; rw [h0]; unfold digitB; simp; omega
  refine ⟨⟨by rw [h0]; unfold blankB; exact decide_eq_false (by omega), by rw [h0]; omega⟩, ?_⟩
  unfold tokT
  rw [if_neg (by rw [hl']; simp), if_neg (by rw [hn']; simp)]
  unfold signT
  rw [hsn, if_neg (by omega), htx]
  exact ⟨rfl, rfl, _, rfl, rfl, rfl, rfl⟩

theorem tokT_again {s : ByteArray} {L : List Rn} {i : Nat} {T : List Tk} (hO : RnOk s L) (hi : i < L.length) (he : (tokT s L i T).er = 0) : ∃ x, (tokT s L i T).T = T ++ [x] ∧ Again x ∧ (tokT s L i T).i = i + x.text.size := by
  unfold tokT at he ⊢
  by_cases hl : letterB (rAt L i) = true
  · rw [if_pos hl] at he ⊢
    exact ⟨_, rfl, again_word hO hi hl he, by show i + wordN L i = i + (txt s L i (wordN L i)).size; rw [(word_text hO hi hl).1]⟩
  · rw [if_neg hl] at he ⊢
    by_cases hn : isNum L i = true
    · rw [if_pos hn] at he ⊢
      have hv : (numVal s L i).2 = true := by
        unfold numbT at he
        simp only at he
        by_cases h : (numVal s L i).2 = true
        · exact h
        · rw [if_neg h] at he; omega
      refine ⟨_, rfl, again_num hO hi hn hv, ?_⟩
      show i + numN L i = i + (txt s L i (numN L i)).size
      obtain ⟨_, h1, _, _⟩ := num_pre hO hi hn
      have hle : ∀ k, k < numN L i → i + k < L.length := by
        intro k hk; unfold numN at hk; have := (rowE_ge digitB L (i + 1)).2 (by omega); omega
      have hasc : ∀ k, k < numN L i → 0 ≤ rAt L (i + k) ∧ rAt L (i + k) < 128 := by
        intro k hk
        cases k with
        | zero =>
          rw [Nat.add_zero]
          unfold isNum at hn; simp at hn
          rcases hn with h | h
          · have := digit_ascii h; omega
          · omega
        | succ k =>
          have hd : digitB (rAt L (i + (k + 1))) = true := by
            unfold numN at hk
            exact rowE_all digitB L (i + 1) (i + (k + 1)) (by omega) (by omega)
          have := digit_ascii hd; omega
      rw [hO.txtSize i (numN L i) hasc hle h1]
    · rw [if_neg hn] at he ⊢
      unfold signT at he ⊢
      by_cases hz : signN (rAt L i) (rAt L (i + 1)) = 0
      · rw [if_pos hz] at he; simp at he
      · rw [if_neg hz]
        obtain ⟨hasc, hle⟩ := sign_ascii hi hz
        refine ⟨_, rfl, again_sign hO hi hz, ?_⟩
        show i + signN (rAt L i) (rAt L (i + 1)) = i + (txt s L i (signN (rAt L i) (rAt L (i + 1)))).size
        rw [hO.txtSize i _ (fun k hk => by have := hasc k hk; omega) hle (by omega)]

end Go.Proofs.YthhjepgcbfmfeaaGreatDoor
