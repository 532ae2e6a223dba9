/- Plain: pieces of text that have tokens of their own wherever they stand, a stop behind them. -/
import Derived.Test.YthhjepgcbfmfeaaGreatDoorSb10
import Derived.Test.YthhjepgcbfmfeaaGreatDoorSb11
import Derived.Test.YthhjepgcbfmfeaaGreatDoorSb13

namespace Go.Proofs.YthhjepgcbfmfeaaGreatDoor
open Go.RowKit

/-- the reader goes from a rune to another one, tokens being put -/
def Goes (s : ByteArray) (L : List Rn) (i : Nat) (T : List Tk) (j : Nat) (U : List Tk) : Prop := ∀ k, L.length - i ≤ k → ∃ k', L.length - j ≤ k' ∧ runT s L k i T = runT s L k' j U
theorem Goes.refl (s : ByteArray) (L : List Rn) (i : Nat) (T : List Tk) : Goes s L i T i T := fun k hk => ⟨k, hk, rfl⟩
theorem Goes.trans {s : ByteArray} {L : List Rn} {i j m : Nat} {T U V : List Tk} (h : Goes s L i T j U) (h' : Goes s L j U m V) : Goes s L i T m V := fun k hk => by
  obtain ⟨k1, h1, e1⟩ := h k hk
  obtain ⟨k2, h2, e2⟩ := h' k1 h1
  exact ⟨k2, h2, e1.trans e2⟩
theorem Goes.step {s : ByteArray} {L : List Rn} {i j : Nat} {T U : List Tk} (hi : i < L.length) (hij : i < j) (he : (oneT s L i T).er = 0) (hj : (oneT s L i T).i = j) (hU : (oneT s L i T).T = U) : Goes s L i T j U := fun k hk => by
  obtain ⟨k, rfl⟩ : ∃ q, k = q + 1 := ⟨k - 1, by omega⟩
  refine ⟨k, by omega, ?_⟩
  rw [runT, if_pos hi, if_neg (by omega), hj, hU]
theorem Goes.tok {s : ByteArray} {L : List Rn} {i j : Nat} {T U : List Tk} (hi : i < L.length) (hij : i < j) (hb : blankB (rAt L i) = false) (h35 : rAt L i ≠ 35) (he : (tokT s L i T).er = 0) (hj : (tokT s L i T).i = j) (hU : (tokT s L i T).T = U) (hl : U.length ≤ 4096) : Goes s L i T j U := by
  have e : oneT s L i T = tokT s L i T := by
    unfold oneT; rw [if_neg (by rw [hb]; simp), if_neg h35]; unfold capT
    rw [if_neg (by omega), if_neg (by rw [hU]; omega)]
  exact Goes.step hi hij (by rw [e]; exact he) (by rw [e]; exact hj) (by rw [e]; exact hU)

def StopR (c : Int) : Prop := c = 32 ∨ c = 41 ∨ c = 93 ∨ c = -1
theorem StopR.inner {c : Int} (h : StopR c) : innerB c = false := by rcases h with rfl | rfl | rfl | rfl <;> decide
theorem StopR.digit {c : Int} (h : StopR c) : digitB c = false := by rcases h with rfl | rfl | rfl | rfl <;> decide
theorem StopR.eq {c : Int} (h : StopR c) : c ≠ 61 := by rcases h with rfl | rfl | rfl | rfl <;> decide

theorem TwinL.app {A B C D : List Tk} (h : TwinL A C) (h' : TwinL B D) : TwinL (A ++ B) (C ++ D) := by
  refine ⟨by rw [List.length_append, List.length_append, h.1, h'.1], fun k a b ha hb => ?_⟩
  by_cases hk : k < A.length
  · rw [List.getElem?_append_left hk] at ha
    rw [List.getElem?_append_left (by rw [← h.1]; exact hk)] at hb
    exact h.2 k a b ha hb
  · rw [List.getElem?_append_right (by omega)] at ha
    rw [List.getElem?_append_right (by rw [← h.1]; omega), ← h.1] at hb
    exact h'.2 _ a b ha hb
theorem TwinL.one {x y : Tk} (h : Twin2 x y) : TwinL [x] [y] := TwinL.snoc TwinL.nil h

theorem Stands.split {L : List Rn} {i : Nat} {a b : List UInt8} (h : Stands L i (a ++ b).length (a ++ b)) : Stands L i a.length a ∧ Stands L (i + a.length) b.length b := by
  have hin := h.inside
  rw [List.length_append] at hin
  refine ⟨⟨rfl, by omega, fun k c hk => h.same k c ?_, fun c hc => h.ascii c (List.mem_append_left _ hc)⟩, ⟨rfl, by omega, fun k c hk => ?_, fun c hc => h.ascii c (List.mem_append_right _ hc)⟩⟩
  · rw [List.getElem?_append_left (List.getElem?_eq_some_iff.1 hk).1]; exact hk
  · rw [Nat.add_assoc]
    exact h.same (a.length + k) c (by rw [List.getElem?_append_right (by omega), show a.length + k - a.length = k by omega]; exact hk)
theorem Stands.head {L : List Rn} {i n : Nat} {c : UInt8} {b : List UInt8} (h : Stands L i n (c :: b)) : rAt L i = (c.toNat : Int) ∧ i < L.length := by
  have := h.same 0 c rfl
  have h2 := h.len
  have h3 := h.inside
  simp only [List.length_cons] at h2
  exact ⟨this, by omega⟩

/-- wherever it stands, a stop behind it -/
structure Seg (l : List UInt8) (U : List Tk) : Prop where
  asc : ∀ b ∈ l, b.toNat < 128
  run : ∀ (s : ByteArray) (L : List Rn) (i : Nat) (T : List Tk), RnOk s L → Stands L i l.length l → StopR (rAt L (i + l.length)) → T.length + U.length ≤ 4096 → ∃ V, TwinL U V ∧ Goes s L i T (i + l.length) (T ++ V)
/-- wherever it stands, whatever is behind it -/
structure SegA (l : List UInt8) (U : List Tk) : Prop where
  asc : ∀ b ∈ l, b.toNat < 128
  run : ∀ (s : ByteArray) (L : List Rn) (i : Nat) (T : List Tk), RnOk s L → Stands L i l.length l → T.length + U.length ≤ 4096 → ∃ V, TwinL U V ∧ Goes s L i T (i + l.length) (T ++ V)
theorem SegA.seg {l : List UInt8} {U : List Tk} (h : SegA l U) : Seg l U := ⟨h.asc, fun s L i T hO hS _ hT => h.run s L i T hO hS hT⟩

theorem Seg.app {a b : List UInt8} {U V : List Tk} (h : Seg a U) (h' : Seg b V) (hb : ∃ c r, b = c :: r ∧ StopR (c.toNat : Int)) : Seg (a ++ b) (U ++ V) := by
  refine ⟨fun c hc => (List.mem_append.1 hc).elim (h.asc c) (h'.asc c), fun s L i T hO hS hE hT => ?_⟩
  rw [List.length_append] at hT
  obtain ⟨sa, sb⟩ := hS.split
  have hst : StopR (rAt L (i + a.length)) := by
    obtain ⟨c, r, rfl, hc⟩ := hb
    rw [sb.head.1]; exact hc
  obtain ⟨U', hU, g1⟩ := h.run s L i T hO sa hst (by omega)
  rw [List.length_append, ← Nat.add_assoc] at hE ⊢
  obtain ⟨V', hV, g2⟩ := h'.run s L (i + a.length) (T ++ U') hO sb hE (by rw [List.length_append, ← hU.1]; omega)
  rw [List.append_assoc] at g2
  exact ⟨U' ++ V', hU.app hV, g1.trans g2⟩
theorem SegA.app {a b : List UInt8} {U V : List Tk} (h : SegA a U) (h' : Seg b V) : Seg (a ++ b) (U ++ V) := by
  refine ⟨fun c hc => (List.mem_append.1 hc).elim (h.asc c) (h'.asc c), fun s L i T hO hS hE hT => ?_⟩
  rw [List.length_append] at hT
  obtain ⟨sa, sb⟩ := hS.split
  obtain ⟨U', hU, g1⟩ := h.run s L i T hO sa (by omega)
  rw [List.length_append, ← Nat.add_assoc] at hE ⊢
  obtain ⟨V', hV, g2⟩ := h'.run s L (i + a.length) (T ++ U') hO sb hE (by rw [List.length_append, ← hU.1]; omega)
  rw [List.append_assoc] at g2
  exact ⟨U' ++ V', hU.app hV, g1.trans g2⟩

/-- a token with no place -/
def tk0 (kind : Int) (text : ByteArray) (num : Int) : Tk := ⟨kind, text, num, 0, 0⟩

theorem seg_sp : SegA [32] [] := by
  refine ⟨by decide, fun s L i T hO hS hT => ⟨[], TwinL.nil, ?_⟩⟩
  have h0 := hS.head
  have e : oneT s L i T = ⟨0, 0, 0, i + 1, T⟩ := by unfold oneT; rw [h0.1]; rfl
  rw [List.append_nil]
  exact Goes.step h0.2 (Nat.lt_succ_self i) (by rw [e]) (by rw [e]; rfl) (by rw [e])

theorem one_ascii {c : UInt8} (h : c.toNat < 128) : ∀ b ∈ [c], b.toNat < 128 := by intro b hb; rw [List.mem_singleton.1 hb]; exact h
/-- a sign of one rune -/
theorem sign1_run {c : UInt8} (hc : c.toNat = 40 ∨ c.toNat = 41 ∨ c.toNat = 91 ∨ c.toNat = 93 ∨ c.toNat = 60 ∨ c.toNat = 62 ∨ c.toNat = 61) {s : ByteArray} {L : List Rn} {i : Nat} {T : List Tk} (hO : RnOk s L) (hS : Stands L i 1 [c]) (hT : T.length + 1 ≤ 4096)
    (hn : (c.toNat = 60 ∨ c.toNat = 62) → rAt L (i + 1) ≠ 61) : ∃ V, TwinL [tk0 4 ⟨#[c]⟩ 0] V ∧ Goes s L i T (i + 1) (T ++ V) := by
  have h0 := hS.head
  have htx : txt s L i 1 = ⟨#[c]⟩ := text_ext (txt_of hO hS (by omega))
  have e1 : blankB (rAt L i) = false := by rw [h0.1]; unfold blankB; exact decide_eq_false (by omega)
  have e3 : letterB (rAt L i) = false := by rw [h0.1]; unfold letterB smallB greatB; simp; omega
  have e4 : isNum L i = false := by unfold isNum; rw [h0.1]; unfold digitB; simp; omega
  have e5 : signN (rAt L i) (rAt L (i + 1)) = 1 := by
    rw [h0.1]
    unfold signN
    rw [if_neg, if_pos (by omega)]
    rintro ⟨h1, h2⟩
    exact hn (by omega) h2
  have e6 : tokT s L i T = ⟨0, 0, 0, i + 1, T ++ [⟨4, ⟨#[c]⟩, 0, lineAt L i, colAt L i⟩]⟩ := by
    unfold tokT; rw [if_neg (by rw [e3]; simp), if_neg (by rw [e4]; simp)]
    unfold signT; rw [e5, htx]; rfl
  refine ⟨[⟨4, ⟨#[c]⟩, 0, lineAt L i, colAt L i⟩], TwinL.one ⟨rfl, rfl, rfl⟩, ?_⟩
  exact Goes.tok h0.2 (Nat.lt_succ_self i) e1 (by rw [h0.1]; omega) (by rw [e6]) (by rw [e6]) (by rw [e6]) (by simp; omega)
theorem seg_br (c : UInt8) (hc : c.toNat = 40 ∨ c.toNat = 41 ∨ c.toNat = 91 ∨ c.toNat = 93) : SegA [c] [tk0 4 ⟨#[c]⟩ 0] :=
  ⟨one_ascii (by omega), fun s L i T hO hS hT => sign1_run (by omega) hO hS hT (by omega)⟩
theorem seg_s1 (c : UInt8) (hc : c.toNat = 60 ∨ c.toNat = 62 ∨ c.toNat = 61) : Seg [c] [tk0 4 ⟨#[c]⟩ 0] :=
  ⟨one_ascii (by omega), fun s L i T hO hS hE hT => sign1_run (by omega) hO hS hT (fun _ => hE.eq)⟩
theorem seg_s2 (c : UInt8) (hc : c.toNat = 60 ∨ c.toNat = 62 ∨ c.toNat = 33) : Seg [c, 61] [tk0 4 ⟨#[c, 61]⟩ 0] := by
  refine ⟨?_, fun s L i T hO hS hE hT => ?_⟩
  · intro b hb
    simp only [List.mem_cons, List.not_mem_nil, or_false] at hb
    rcases hb with rfl | rfl
    · omega
    · decide
  have h0 := hS.head
  have h1 : rAt L (i + 1) = 61 := hS.same 1 61 rfl
  have htx : txt s L i 2 = ⟨#[c, 61]⟩ := text_ext (txt_of hO hS (by decide))
  have e1 : blankB (rAt L i) = false := by rw [h0.1]; unfold blankB; exact decide_eq_false (by omega)
  have e3 : letterB (rAt L i) = false := by rw [h0.1]; unfold letterB smallB greatB; simp; omega
  have e4 : isNum L i = false := by unfold isNum; rw [h0.1]; unfold digitB; simp; omega
  have e5 : signN (rAt L i) (rAt L (i + 1)) = 2 := by
    rw [h0.1, h1]
    unfold signN
    rw [if_pos ⟨by omega, rfl⟩]
  have e6 : tokT s L i T = ⟨0, 0, 0, i + 2, T ++ [⟨4, ⟨#[c, 61]⟩, 0, lineAt L i, colAt L i⟩]⟩ := by
    unfold tokT; rw [if_neg (by rw [e3]; simp), if_neg (by rw [e4]; simp)]
    unfold signT; rw [e5, htx]; rfl
  refine ⟨[⟨4, ⟨#[c, 61]⟩, 0, lineAt L i, colAt L i⟩], TwinL.one ⟨rfl, rfl, rfl⟩, ?_⟩
  exact Goes.tok h0.2 (by simp) e1 (by rw [h0.1]; omega) (by rw [e6]) (by rw [e6]; rfl) (by rw [e6]) (by simp at hT ⊢; omega)

/-- a word -/
theorem seg_word (w : ByteArray) (h0 : 0 < w.size) (hl : letterB ((w[0]'h0).toNat : Int) = true) (hi : ∀ b ∈ w.data.toList, innerB (b.toNat : Int) = true) (he : wordErr w = 0) : Seg w.data.toList [tk0 (wordKind w) w 0] := by
  have hasc : ∀ b ∈ w.data.toList, b.toNat < 128 := fun b hb => by have := inner_ascii (hi b hb); omega
  refine ⟨hasc, fun s L i T hO hS hE hT => ?_⟩
  have hlen : w.data.toList.length = w.size := by simp
  rw [hlen] at hS hE ⊢
  have hst := hS
  have hc0 : w.data.toList[0]? = some (w[0]'h0) := Lib.data_getElem? w 0 h0
  have hr0 : rAt L i = ((w[0]'h0).toNat : Int) := hS.same 0 _ hc0
  have hil : i < L.length := by have := hS.inside; omega
  have hinn : ∀ k, k < w.size → innerB (rAt L (i + k)) = true := fun k hk => by
    have hk2 : k < w.data.toList.length := by omega
    rw [hS.same k _ (List.getElem?_eq_getElem hk2)]
    exact hi _ (List.getElem_mem hk2)
  have hrow : rowE innerB L i = i + w.size := row_move (by decide) hinn hE.inner
  have hwn : wordN L i = w.size := by unfold wordN; rw [hrow]; omega
  have htx : txt s L i w.size = w := text_ext (txt_of hO hS h0)
  have hl' : letterB (rAt L i) = true := by rw [hr0]; exact hl
  have e6 : tokT s L i T = ⟨0, lineAt L i, colAt L i, i + w.size, T ++ [⟨wordKind w, w, 0, lineAt L i, colAt L i⟩]⟩ := by
    unfold tokT; rw [if_pos hl']; unfold wordT; rw [hwn, htx, he]
  refine ⟨[⟨wordKind w, w, 0, lineAt L i, colAt L i⟩], TwinL.one ⟨rfl, rfl, rfl⟩, ?_⟩
  refine Goes.tok hil (by omega) ?_ ?_ (by rw [e6]) (by rw [e6]) (by rw [e6]) (by simp at hT ⊢; omega)
  · rw [hr0]; unfold letterB smallB greatB at hl; simp at hl; unfold blankB; exact decide_eq_false (by omega)
  · rw [hr0]; unfold letterB smallB greatB at hl; simp at hl; omega

/-! numbers -/
theorem dgt_byte {d : Nat} (h : d < 10) : (UInt8.ofNat (48 + d)).toNat = 48 + d := by
  rw [UInt8.toNat_ofNat']; omega
theorem decDigits_val : ∀ u : Nat, numV (Lib.decDigits u) = u ∧ (∀ b ∈ Lib.decDigits u, 48 ≤ b.toNat ∧ b.toNat ≤ 57) ∧ 0 < (Lib.decDigits u).length := by
  intro u
  induction u using Nat.strongRecOn with
  | _ u ih =>
    rw [Lib.decDigits]
    split
    · rename_i h
      have hb := dgt_byte (d := u) (by omega)
      refine ⟨?_, ?_, by simp⟩
      · show stepV 0 _ = u
        unfold stepV; rw [hb, if_neg (by omega)]; omega
      · intro b hm; rw [List.mem_singleton.1 hm, hb]; omega
    · rename_i h
      obtain ⟨h1, h2, h3⟩ := ih (u / 10) (by omega)
      have hb := dgt_byte (d := u % 10) (by omega)
      refine ⟨?_, ?_, by simp⟩
      · rw [numV_snoc, h1]
        unfold stepV; rw [hb, if_neg (by omega)]; omega
      · intro b hm
        rcases List.mem_append.1 hm with hm | hm
        · exact h2 b hm
        · rw [List.mem_singleton.1 hm, hb]; omega

/-- a number's text: a first byte, and digits -/
theorem seg_digits (c : UInt8) (r : List UInt8) (n : Int) (hc : (48 ≤ c.toNat ∧ c.toNat ≤ 57) ∨ (c.toNat = 45 ∧ r ≠ [])) (hr : ∀ b ∈ r, 48 ≤ b.toNat ∧ b.toNat ≤ 57) (hv : valN ⟨(c :: r).toArray⟩ (decide ((c.toNat : Int) = 45)) = (n, true)) : Seg (c :: r) [tk0 3 ⟨(c :: r).toArray⟩ n] := by
  have hasc : ∀ b ∈ c :: r, b.toNat < 128 := by
    intro b hb
    rcases List.mem_cons.1 hb with rfl | hb
    · omega
    · have := hr b hb; omega
  refine ⟨hasc, fun s L i T hO hS hE hT => ?_⟩
  obtain ⟨m, hm⟩ : ∃ m, r.length = m := ⟨_, rfl⟩
  have hlen : (c :: r).length = m + 1 := by simp [hm]
  rw [hlen] at hS hE ⊢
  have h0 := hS.head
  have hdig : ∀ k, k < m → digitB (rAt L (i + 1 + k)) = true := fun k hk => by
    have hk2 : k < r.length := by omega
    have e := hS.same (k + 1) r[k] (by rw [List.getElem?_cons_succ, List.getElem?_eq_getElem hk2])
    have := hr _ (List.getElem_mem hk2)
    rw [show i + 1 + k = i + (k + 1) by omega, e]
    unfold digitB; exact decide_eq_true (by omega)
  have hrow : rowE digitB L (i + 1) = i + 1 + m := row_move (by decide) hdig (by rw [show i + 1 + m = i + (m + 1) by omega]; exact hE.digit)
  have hnn : numN L i = m + 1 := by unfold numN; rw [hrow]; omega
  have htx : txt s L i (m + 1) = ⟨(c :: r).toArray⟩ := text_ext (txt_of hO hS (by omega))
  have hl : letterB (rAt L i) = false := by rw [h0.1]; unfold letterB smallB greatB; simp; omega
  have hn : isNum L i = true := by
    unfold isNum
    rw [h0.1]
    rcases hc with hc | ⟨hc, hne⟩
    · have : digitB (c.toNat : Int) = true := by unfold digitB; exact decide_eq_true (by omega)
      rw [this]; rfl
    · have hm0 : 0 < m := by
        rcases Nat.eq_zero_or_pos m with h | h
        · rw [h] at hm; exact absurd (List.length_eq_zero_iff.1 hm) hne
        · exact h
      have := hdig 0 hm0
      rw [Nat.add_zero] at this
      rw [this, decide_eq_true (by omega)]; simp
  have hval : numVal s L i = (n, true) := by unfold numVal; rw [hnn, htx, h0.1]; exact hv
  have e6 : tokT s L i T = ⟨0, lineAt L i, colAt L i, i + (m + 1), T ++ [⟨3, ⟨(c :: r).toArray⟩, n, lineAt L i, colAt L i⟩]⟩ := by
    unfold tokT; rw [if_neg (by rw [hl]; simp), if_pos hn]; unfold numbT; rw [hval, hnn, htx]; rfl
  refine ⟨[⟨3, ⟨(c :: r).toArray⟩, n, lineAt L i, colAt L i⟩], TwinL.one ⟨rfl, rfl, rfl⟩, ?_⟩
  refine Goes.tok h0.2 (by omega) ?_ ?_ (by rw [e6]) (by rw [e6]) (by rw [e6]) (by simp at hT ⊢; omega)
  · rw [h0.1]; unfold blankB; exact decide_eq_false (by omega)
  · rw [h0.1]; omega
theorem seg_num (n : Int) (h0 : -9223372036854775808 ≤ n) (h1 : n ≤ 9223372036854775807) : Seg (Lib.itoa n) [tk0 3 ⟨(Lib.itoa n).toArray⟩ n] := by
  unfold Lib.itoa
  by_cases h : n < 0
  · rw [if_pos h]
    obtain ⟨v, d, l⟩ := decDigits_val n.natAbs
    refine seg_digits 45 _ n (.inr ⟨rfl, fun e => by rw [e] at l; exact absurd l (by decide)⟩) d ?_
    unfold valN
    have e : numV (⟨(45 :: Lib.decDigits n.natAbs).toArray⟩ : ByteArray).data.toList = n.natAbs := by
      show numV (45 :: Lib.decDigits n.natAbs) = _
      rw [← v]
      show List.foldl stepV (stepV 0 45) _ = _
      rw [v]
      show List.foldl stepV 0 _ = _
      exact v
    rw [if_pos (by decide), e, if_pos (by omega)]
    simp only [Prod.mk.injEq, and_true]; omega
  · rw [if_neg h]
    obtain ⟨v, d, l⟩ := decDigits_val n.toNat
    obtain ⟨c, r, hcr⟩ : ∃ c r, Lib.decDigits n.toNat = c :: r := by
      cases hq : Lib.decDigits n.toNat with
      | nil => rw [hq] at l; exact absurd l (by decide)
      | cons c r => exact ⟨c, r, rfl⟩
    rw [hcr] at v d ⊢
    have hc := d c List.mem_cons_self
    refine seg_digits c r n (.inl hc) (fun b hb => d b (List.mem_cons_of_mem _ hb)) ?_
    unfold valN
    have e : numV (⟨(c :: r).toArray⟩ : ByteArray).data.toList = n.toNat := v
    have e2 : decide ((c.toNat : Int) = 45) = false := decide_eq_false (by omega)
    rw [e2, if_neg (by simp), e, if_pos (by omega)]
    simp only [Prod.mk.injEq, and_true]; omega

/-! names, words, signs -/
theorem name_seg {s : ByteArray} (h : nameOK s = true) : Seg s.data.toList [tk0 1 s 0] := by
  unfold nameOK at h
  simp only [Bool.and_eq_true, decide_eq_true_eq, Bool.not_eq_true'] at h
  obtain ⟨⟨h1, h2⟩, h3⟩ := h
  have hn0 : ∃ b r, s.data.toList = b :: r ∧ nameByte true b = true ∧ ∀ c ∈ r, nameByte false c = true := by
    cases hl : s.data.toList with
    | nil => rw [hl] at h1; cases h1
    | cons b r =>
      rw [hl] at h1
      simp only [nameL, Bool.and_eq_true, List.all_eq_true] at h1
      exact ⟨b, r, rfl, h1.1, h1.2⟩
  obtain ⟨b, r, hl, hb, hr⟩ := hn0
  have hsz : 0 < s.size := by
    have : s.data.toList.length = s.size := by simp
    rw [hl] at this; simp at this; omega
  have hs0 : s[0]'hsz = b := by
    have := Lib.data_getElem? s 0 hsz
    rw [hl] at this
    exact (Option.some.inj this).symm
  have hin : ∀ c ∈ s.data.toList, innerB (c.toNat : Int) = true ∧ greatB (c.toNat : Int) = false := by
    intro c hc
    rw [hl] at hc
    have key : ∀ f, nameByte f c = true → innerB (c.toNat : Int) = true ∧ greatB (c.toNat : Int) = false := by
      intro f hf
      unfold nameByte at hf
      simp only [Bool.or_eq_true, Bool.and_eq_true, decide_eq_true_eq] at hf
      unfold innerB letterB smallB greatB digitB
      simp only [Bool.or_eq_true, decide_eq_true_eq, decide_eq_false_iff_not]
      omega
    rcases List.mem_cons.1 hc with rfl | hc
    · exact key _ hb
    · exact key _ (hr c hc)
  have hk : wordKind s = 1 := by unfold wordKind; rw [h3]; rfl
  have he : wordErr s = 0 := by
    unfold wordErr
    rw [h3, if_neg (by simp), if_neg, if_neg (by omega)]
    intro hg
    unfold hasGreatB at hg
    obtain ⟨c, hc, hcg⟩ := List.any_eq_true.1 hg
    rw [(hin c hc).2] at hcg; cases hcg
  have := seg_word s hsz (by
    rw [hs0]
    unfold nameByte at hb
    simp only [Bool.or_eq_true, Bool.and_eq_true, decide_eq_true_eq, Bool.not_true, Bool.false_eq_true, false_and, or_false] at hb
    unfold letterB smallB greatB
    simp only [Bool.or_eq_true, decide_eq_true_eq]
    omega) (fun c hc => (hin c hc).1) he
  rwa [hk] at this
/-- a word of the language -/
def wordIs (s : ByteArray) : Bool := knownB s && (match s.data.toList with | [] => false | b :: _ => letterB (b.toNat : Int)) && s.data.toList.all (fun b => innerB (b.toNat : Int))
theorem word_seg {s : ByteArray} (h : wordIs s = true) : Seg s.data.toList [tk0 2 s 0] := by
  unfold wordIs at h
  simp only [Bool.and_eq_true, List.all_eq_true] at h
  obtain ⟨⟨h1, h2⟩, h3⟩ := h
  obtain ⟨b, r, hl⟩ : ∃ b r, s.data.toList = b :: r := by
    cases hl : s.data.toList with
    | nil => rw [hl] at h2; cases h2
    | cons b r => exact ⟨b, r, rfl⟩
  have hsz : 0 < s.size := by
    have : s.data.toList.length = s.size := by simp
    rw [hl] at this; simp at this; omega
  have hs0 : s[0]'hsz = b := by
    have := Lib.data_getElem? s 0 hsz
    rw [hl] at this
    exact (Option.some.inj this).symm
  rw [hl] at h2
  have := seg_word s hsz (by rw [hs0]; exact h2) h3 (by unfold wordErr; rw [if_pos h1])
  rwa [show wordKind s = 2 by unfold wordKind; rw [if_pos h1]] at this

/-- the token of an Op -/
def opTk (op : Int) : Tk := tk0 (if 3 ≤ op ∧ op ≤ 8 then 4 else 2) (signB op) 0
theorem op_seg {op : Int} (h : 1 ≤ op ∧ op ≤ 26) : Seg (signB op).data.toList [opTk op] := by
  have hw : ∀ k : Int, (1 ≤ k ∧ k ≤ 2) ∨ (9 ≤ k ∧ k ≤ 26) → wordIs (signB k) = true := by
    intro k hk
    have : ∀ j : Nat, j < 27 → (1 ≤ j ∧ j ≤ 2) ∨ (9 ≤ j ∧ j ≤ 26) → wordIs (signB (j : Int)) = true := by decide +kernel
    have h2 := this k.toNat (by omega) (by omega)
    rwa [show ((k.toNat : Nat) : Int) = k by omega] at h2
  by_cases hc : 3 ≤ op ∧ op ≤ 8
  · have e : opTk op = tk0 4 (signB op) 0 := by unfold opTk; rw [if_pos hc]
    rw [e]
    rcases (show op = 3 ∨ op = 4 ∨ op = 5 ∨ op = 6 ∨ op = 7 ∨ op = 8 by omega) with rfl | rfl | rfl | rfl | rfl | rfl
    · exact seg_s1 60 (by decide)
    · exact seg_s2 60 (by decide)
    · exact seg_s1 62 (by decide)
    · exact seg_s2 62 (by decide)
    · exact seg_s1 61 (by decide)
    · exact seg_s2 33 (by decide)
  · have e : opTk op = tk0 2 (signB op) 0 := by unfold opTk; rw [if_neg hc]
    rw [e]
    exact word_seg (hw op (by omega))
def uTk : Tk := tk0 2 wU 0
theorem u_seg : Seg [85] [uTk] := word_seg (s := wU) (by decide +kernel)

/-! the tokens of a formula's text -/
def wordTk (n : ByteArray) (k : Int) : Tk := if n.size = 0 then tk0 3 ⟨(Lib.itoa k).toArray⟩ k else tk0 1 n 0
def atomTk (x : It) : List Tk :=
  if 3 ≤ x.op ∧ x.op ≤ 8 then [wordTk x.ln x.lnum, opTk x.op, wordTk x.rn x.rnum]
  else if x.op = 12 then [opTk 12, tk0 1 x.user 0, tk0 1 x.name 0]
  else if 9 ≤ x.op ∧ x.op ≤ 11 then [opTk x.op, tk0 1 x.name 0]
  else [opTk x.op]
def opnTk : Tk := tk0 4 sOpen 0
def clsTk : Tk := tk0 4 sClose 0
def begTk : Tk := tk0 4 sBegin 0
def endTk4 : Tk := tk0 4 sEnd 0
def inTk (b : Bool) (U : List Tk) : List Tk := if b then opnTk :: (U ++ [clsTk]) else U
def twoTk (op : Int) (tf : Int) (U : List Tk) (tg : Int) (V : List Tk) : List Tk :=
  if op = 16 then inTk (decide (tf < 3)) U ++ ([opTk 16] ++ inTk (decide (tg < 4)) V)
  else if op = 17 then inTk (decide (tf < 2)) U ++ ([opTk 17] ++ inTk (decide (tg < 3)) V)
  else if op = 18 then inTk (decide (tf < 2)) U ++ ([opTk 18] ++ inTk (decide (tg < 1)) V)
  else [opTk op] ++ ([begTk] ++ (U ++ ([uTk] ++ (V ++ [endTk4]))))
def tkF : Fm → List Tk
  | .leaf x _ => atomTk x
  | .one x _ f => [opTk x.op] ++ inTk (decide (tightN f.op < 4)) (tkF f)
  | .two x _ f g => twoTk x.op (tightN f.op) (tkF f) (tightN g.op) (tkF g)

theorem ba_l (a b : ByteArray) : (a ++ b).data.toList = a.data.toList ++ b.data.toList := by simp [ByteArray.data_append]
theorem Seg.sp {a b : List UInt8} {U V : List Tk} (h : Seg a U) (h' : Seg b V) : Seg (a ++ ([32] ++ b)) (U ++ V) := h.app (seg_sp.app h') ⟨32, b, rfl, .inl rfl⟩
theorem word_sg {n : ByteArray} {k : Int} (h : wordNm n = true) (h0 : -9223372036854775808 ≤ k) (h1 : k ≤ 9223372036854775807) : Seg (wordTx n k).data.toList [wordTk n k] := by
  unfold wordTx wordTk
  by_cases hz : n.size = 0
  · rw [if_pos hz, if_pos hz]
    exact seg_num k h0 h1
  · rw [if_neg hz, if_neg hz]
    unfold wordNm at h
    rw [decide_eq_false hz, Bool.false_or] at h
    exact name_seg h
theorem atom_seg {x : It} (hx : namedB x = true) (hs : Short x) (hop : 1 ≤ x.op ∧ x.op ≤ 14) : Seg (atomTx x).data.toList (atomTk x) := by
  unfold namedB at hx
  unfold atomTx atomTk
  obtain ⟨_, _, _, _, ⟨l0, l1⟩, r0, r1⟩ := hs
  by_cases h1 : 3 ≤ x.op ∧ x.op ≤ 8
  · rw [if_pos h1] at hx ⊢
    rw [if_pos h1]
    simp only [Bool.and_eq_true] at hx
    simp only [ba_l, List.append_assoc]
    exact (word_sg hx.1 l0 l1).sp ((op_seg (by omega)).sp (word_sg hx.2 r0 r1))
  rw [if_neg h1] at hx ⊢
  rw [if_neg h1]
  by_cases h2 : x.op = 12
  · rw [if_pos h2] at hx ⊢
    rw [if_pos h2]
    simp only [Bool.and_eq_true] at hx
    simp only [ba_l, List.append_assoc]
    exact (op_seg (by decide)).sp ((name_seg hx.1).sp (name_seg hx.2))
  rw [if_neg h2] at hx ⊢
  rw [if_neg h2]
  by_cases h3 : 9 ≤ x.op ∧ x.op ≤ 11
  · rw [if_pos h3] at hx ⊢
    rw [if_pos h3]
    simp only [ba_l, List.append_assoc]
    exact (op_seg (by omega)).sp (name_seg hx)
  rw [if_neg h3, if_neg h3]
  exact op_seg (by omega)
theorem in_seg {s : ByteArray} {U : List Tk} (h : Seg s.data.toList U) (t least : Int) : Seg (inF t least s).data.toList (inTk (decide (t < least)) U) := by
  unfold inF brk8 inTk
  by_cases hb : t < least
  · rw [decide_eq_true hb, if_pos rfl, if_pos rfl]
    simp only [ba_l, List.append_assoc]
    exact (seg_br 40 (by decide)).app (h.app (seg_br 41 (by decide)).seg ⟨41, [], rfl, .inr (.inl rfl)⟩)
  · rw [decide_eq_false hb, if_neg (by simp), if_neg (by simp)]
    exact h
theorem two_seg {op : Int} (ho : op = 16 ∨ op = 17 ∨ op = 18 ∨ op = 25 ∨ op = 26) {s r : ByteArray} {U V : List Tk} (h : Seg s.data.toList U) (h' : Seg r.data.toList V) (tf tg : Int) : Seg (twoTx op tf s tg r).data.toList (twoTk op tf U tg V) := by
  unfold twoTx twoTk
  by_cases h1 : op = 16
  · rw [if_pos h1, if_pos h1]
    simp only [ba_l, List.append_assoc]
    exact (in_seg h tf 3).sp ((op_seg (by decide)).sp (in_seg h' tg 4))
  rw [if_neg h1, if_neg h1]
  by_cases h2 : op = 17
  · rw [if_pos h2, if_pos h2]
    simp only [ba_l, List.append_assoc]
    exact (in_seg h tf 2).sp ((op_seg (by decide)).sp (in_seg h' tg 3))
  rw [if_neg h2, if_neg h2]
  by_cases h3 : op = 18
  · rw [if_pos h3, if_pos h3]
    simp only [ba_l, List.append_assoc]
    exact (in_seg h tf 2).sp ((op_seg (by decide)).sp (in_seg h' tg 1))
  rw [if_neg h3, if_neg h3]
  simp only [ba_l, List.append_assoc]
  refine (op_seg (op := op) (by omega)).sp (b := [91] ++ (s.data.toList ++ ([32] ++ ([85] ++ ([32] ++ (r.data.toList ++ [93])))))) ((seg_br 91 (by decide)).app ?_)
  exact h.sp (u_seg.sp (h'.app (seg_br 93 (by decide)).seg ⟨93, [], rfl, .inr (.inr (.inl rfl))⟩))

theorem textF_seg : ∀ f : Fm, (∀ x ∈ f.flat, namedB x = true) → (∀ x ∈ f.flat, Short x) → Seg (textF f).data.toList (tkF f)
  | .leaf x h, hn, hs => by
    have hop : 1 ≤ x.op ∧ x.op ≤ 14 := by
      unfold arN at h
      split at h
      · assumption
      split at h
      · omega
      split at h
      · omega
      · omega
    exact atom_seg (hn x (by simp [Fm.flat])) (hs x (by simp [Fm.flat])) hop
  | .one x h f, hn, hs => by
    have hop : 1 ≤ x.op ∧ x.op ≤ 26 := by
      unfold arN at h
      split at h
      · omega
      split at h
      · omega
      split at h
      · omega
      · omega
    have i := textF_seg f (fun y hy => hn y (by simp [Fm.flat, hy])) (fun y hy => hs y (by simp [Fm.flat, hy]))
    simp only [textF, tkF, ba_l, List.append_assoc]
    exact (op_seg hop).sp (in_seg i _ 4)
  | .two x h f g, hn, hs => by
    have hop : x.op = 16 ∨ x.op = 17 ∨ x.op = 18 ∨ x.op = 25 ∨ x.op = 26 := by
      unfold arN at h
      split at h
      · omega
      split at h
      · omega
      split at h
      · omega
      · omega
    have i := textF_seg f (fun y hy => hn y (by simp [Fm.flat, hy])) (fun y hy => hs y (by simp [Fm.flat, hy]))
    have j := textF_seg g (fun y hy => hn y (by simp [Fm.flat, hy])) (fun y hy => hs y (by simp [Fm.flat, hy]))
    exact two_seg hop i j _ _

/-! the tokens of a text that is a piece -/
theorem stands_all {P : ByteArray} (hP : ∀ b ∈ P.data.toList, b.toNat < 128) : Stands (allR P) 0 P.data.toList.length P.data.toList ∧ (allR P).length = P.size := by
  have hA : AsciiT P := fun k hk => hP _ (List.mem_of_getElem? (Lib.data_getElem? P k hk))
  obtain ⟨h1, h2⟩ := allR_ascii P hA
  refine ⟨⟨rfl, by rw [h1]; simp, fun k b hk => ?_, hP⟩, h1⟩
  have hkl := (List.getElem?_eq_some_iff.1 hk).1
  have hk1 : k < P.size := by simpa using hkl
  rw [Nat.zero_add, h2 k hk1]
  have := Lib.data_getElem? P k hk1
  rw [hk] at this
  rw [← Option.some.inj this]
theorem seg_tokRes {P : ByteArray} {U : List Tk} (h : Seg P.data.toList U) (hs : P.size ≤ 16384) (hU : U.length ≤ 4096) : (tokRes P).er = 0 ∧ ∃ V, (tokRes P).T = V ++ [Go.Proofs.YthhjepgcbfmfeaaGreatDoor.endTk P] ∧ TwinL U V := by
  obtain ⟨hS, hl⟩ := stands_all h.asc
  have hlen : P.data.toList.length = P.size := by simp
  obtain ⟨V, hV, g⟩ := h.run P (allR P) 0 [] (rnOk P (by omega)) hS (.inr (.inr (.inr (rAt_none (by rw [Nat.zero_add, hlen]; omega))))) (by simpa using hU)
  obtain ⟨k', _, e⟩ := g (allR P).length (by omega)
  have e2 : runT P (allR P) k' (0 + P.data.toList.length) ([] ++ V) = ⟨0, 0, 0, 0 + P.data.toList.length, [] ++ V⟩ := by
    cases k' with
    | zero => rfl
    | succ k' => rw [runT, if_neg (by omega)]
  rw [e2] at e
  unfold tokRes
  rw [if_neg (by omega), e]
  exact ⟨rfl, V, rfl, hV⟩

end Go.Proofs.YthhjepgcbfmfeaaGreatDoor
