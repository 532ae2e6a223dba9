/- Plain: the tokens of the texts of a text's tokens. -/
import Derived.Test.YthbbbccefjemmaaDoorAgainPlain
import Derived.Test.YthbbbccefjemmaaDoorRunPlain
namespace Go.Proofs.YthbbbccefjemmaaDoor
open Go.RowKit

/-- texts, a blank between each two -/
def pj (l : List Tk) : List UInt8 := (l.flatMap (fun x => 32 :: x.text.data.toList)).drop 1
/-- texts, a blank behind each -/
def joinT (l : List Tk) : List UInt8 := l.flatMap (fun x => x.text.data.toList ++ [32])
def sumT (l : List Tk) : Nat := (l.map (fun x => x.text.size)).sum

theorem pj_nil : pj [] = [] := rfl
theorem pj_one (x : Tk) : pj [x] = x.text.data.toList := by simp [pj]
theorem pj_snoc (l : List Tk) (x : Tk) (h : l ≠ []) : pj (l ++ [x]) = pj l ++ 32 :: x.text.data.toList := by
  cases l with
  | nil => exact absurd rfl h
  | cons y r => simp [pj]
theorem join_flat (l : List Tk) : 32 :: joinT l = l.flatMap (fun x => 32 :: x.text.data.toList) ++ [32] := by
  induction l with
  | nil => rfl
  | cons y r ih =>
    simp only [joinT, List.flatMap_cons] at *
    rw [List.append_assoc]
    show 32 :: (y.text.data.toList ++ (32 :: List.flatMap (fun x => x.text.data.toList ++ [32]) r)) = _
    rw [ih]
    simp
theorem pj_end (l : List Tk) (x : Tk) (hx : x.text.data.toList = []) : pj (l ++ [x]) = joinT l := by
  unfold pj
  rw [List.flatMap_append]
  simp only [List.flatMap_cons, List.flatMap_nil, List.append_nil, hx]
  rw [← join_flat]; rfl
theorem join_len (l : List Tk) : (joinT l).length = sumT l + l.length := by
  induction l with
  | nil => rfl
  | cons y r ih =>
    simp only [joinT, sumT, List.flatMap_cons, List.length_append, List.map_cons, List.sum_cons, List.length_cons, List.length_nil] at *
    rw [ih]
    have : y.text.data.toList.length = y.text.size := by simp
    omega
theorem sum_snoc (l : List Tk) (x : Tk) : sumT (l ++ [x]) = sumT l + x.text.size := by simp [sumT]
theorem sum_ge (l : List Tk) (h : ∀ x ∈ l, 0 < x.text.size) : l.length ≤ sumT l := by
  induction l with
  | nil => exact Nat.zero_le _
  | cons y r ih =>
    have h1 := h y (by simp)
    have h2 := ih (fun x hx => h x (List.mem_cons_of_mem _ hx))
    simp only [sumT, List.map_cons, List.sum_cons, List.length_cons] at *
    omega

/-- what holds of the tokens that were taken up to a rune -/
structure Took2 (L : List Rn) (i : Nat) (T : List Tk) : Prop where
  sum : sumT T ≤ i
  le : i ≤ L.length
  ag : ∀ x ∈ T, Again x

theorem tokT_end {s : ByteArray} {L : List Rn} {i : Nat} {T : List Tk} (hi : i < L.length) (he : (tokT s L i T).er = 0) : (tokT s L i T).i ≤ L.length := by
  unfold tokT at he ⊢
  by_cases hl : letterB (rAt L i) = true
  · rw [if_pos hl]
    have := (rowE_ge innerB L i).2 (by omega)
    have := (rowE_ge innerB L i).1
    unfold wordT wordN
    show i + (rowE innerB L i - i) ≤ _
    omega
  · rw [if_neg hl] at he ⊢
    by_cases hn : isNum L i = true
    · rw [if_pos hn]
      have := (rowE_ge digitB L (i + 1)).2 (by omega)
      have := (rowE_ge digitB L (i + 1)).1
      unfold numbT numN
      show i + (rowE digitB L (i + 1) - i) ≤ _
      omega
    · rw [if_neg hn] at he ⊢
      unfold signT at he ⊢
      by_cases hz : signN (rAt L i) (rAt L (i + 1)) = 0
      · rw [if_pos hz] at he; simp at he
      · rw [if_neg hz]
        obtain ⟨_, hle⟩ := sign_ascii hi hz
        have := hle (signN (rAt L i) (rAt L (i + 1)) - 1) (by omega)
        show i + signN (rAt L i) (rAt L (i + 1)) ≤ _
        omega

theorem oneT_again {s : ByteArray} {L : List Rn} {i : Nat} {T : List Tk} (hO : RnOk s L) (h : Took2 L i T) (hi : i < L.length) (he : (oneT s L i T).er = 0) : Took2 L (oneT s L i T).i (oneT s L i T).T := by
  unfold oneT at he ⊢
  by_cases hb : blankB (rAt L i) = true
  · rw [if_pos hb]; exact ⟨by have := h.sum; show sumT T ≤ i + 1; omega, hi, h.ag⟩
  · rw [if_neg hb] at he ⊢
    by_cases h35 : rAt L i = 35
    · rw [if_pos h35] at he ⊢
      have h2 := rowE_ge restB L i
      unfold restT at he ⊢
      split
      · rename_i hq; rw [if_pos hq] at he; simp at he
      · exact ⟨by have := h.sum; show sumT T ≤ rowE restB L i; omega, h2.2 (by omega), h.ag⟩
    · rw [if_neg h35] at he ⊢
      unfold capT at he ⊢
      by_cases hr : (tokT s L i T).er ≠ 0
      · rw [if_pos hr] at he; exact absurd he hr
      · rw [if_neg hr] at he ⊢
        by_cases hc : 4096 < (tokT s L i T).T.length
        · rw [if_pos hc] at he; simp at he
        · rw [if_neg hc]
          obtain ⟨x, hx, hag, hi2⟩ := tokT_again (T := T) hO hi (by omega)
          refine ⟨?_, tokT_end hi (by omega), ?_⟩
          · rw [hx, sum_snoc, hi2]; have := h.sum; omega
          · rw [hx]; intro y hy
            rcases List.mem_append.1 hy with hy | hy
            · exact h.ag y hy
            · rw [List.mem_singleton.1 hy]; exact hag

theorem runT_again {s : ByteArray} {L : List Rn} (hO : RnOk s L) (k i : Nat) (T : List Tk) (h : Took2 L i T) (he : (runT s L k i T).er = 0) : ∃ j, Took2 L j (runT s L k i T).T := by
  induction k generalizing i T with
  | zero => exact ⟨i, h⟩
  | succ k ih =>
    rw [runT] at he ⊢
    by_cases hi : i < L.length
    · rw [if_pos hi] at he ⊢
      by_cases h1 : (oneT s L i T).er ≠ 0
      · rw [if_pos h1] at he; exact absurd he h1
      · rw [if_neg h1] at he ⊢
        exact ih _ _ (oneT_again hO h hi (by omega)) he
    · rw [if_neg hi]; exact ⟨i, h⟩

/-- the same token, but for its place -/
def SameTk (x y : Tk) : Prop := x.kind = y.kind ∧ x.text = y.text ∧ x.num = y.num

/-- the run over the texts of tokens -/
theorem run_join {P : ByteArray} (hl : (allR P).length ≤ 16384) (hP : AsciiT P) (A : List UInt8) (R : List Tk) (hag : ∀ x ∈ R, Again x) (hA : P.data.toList = A ++ joinT R) (T : List Tk) (hT : T.length + R.length ≤ 4096) :
    ∃ ys, runB P (allR P) A.length false T = ⟨0, 0, 0, T ++ ys⟩ ∧ ys.length = R.length ∧ ∀ (k : Nat) (x y : Tk), R[k]? = some x → ys[k]? = some y → SameTk x y := by
  have hO := rnOk P hl
  obtain ⟨hlen, hr⟩ := allR_ascii P hP
  have hsz : P.data.toList.length = P.size := by simp
  induction R generalizing A T with
  | nil =>
    refine ⟨[], ?_, rfl, fun k x y hx => by simp at hx⟩
    have : A.length = P.size := by rw [← hsz, hA]; simp [joinT]
    rw [List.append_nil]
    exact runB_end false T (by omega)
  | cons x R ih =>
    have hx := hag x (by simp)
    have hA2 : P.data.toList = A ++ (x.text.data.toList ++ (32 :: joinT R)) := by
      rw [hA]; simp [joinT]
    have htl : x.text.data.toList.length = x.text.size := by simp
    have hall : A.length + x.text.size + 1 + (joinT R).length = P.size := by
      rw [← hsz, hA2]; simp; omega
    have byte : ∀ (j : Nat) (b : UInt8), P.data.toList[j]? = some b → rAt (allR P) j = (b.toNat : Int) := by
      intro j b hb
      have hj := (List.getElem?_eq_some_iff.1 hb).1
      have hj1 : j < P.size := by omega
      rw [hr j hj1]
      rw [List.getElem?_eq_getElem hj] at hb
      have e := Option.some.inj hb
      rw [← e]; rfl
    have hst : Stands (allR P) A.length x.text.size x.text.data.toList := by
      refine ⟨htl, by omega, fun k b hb => ?_, hx.asc⟩
      apply byte
      have hk := (List.getElem?_eq_some_iff.1 hb).1
      rw [hA2, List.getElem?_append_right (by omega), List.getElem?_append_left (by omega), Nat.add_sub_cancel_left]
      exact hb
    have h32 : rAt (allR P) (A.length + x.text.size) = 32 := by
      have := byte (A.length + x.text.size) 32 (by
        rw [hA2, List.getElem?_append_right (by omega), List.getElem?_append_right (by omega)]
        rw [show A.length + x.text.size - A.length - x.text.data.toList.length = 0 by omega]; rfl)
      rw [this]; rfl
    obtain ⟨⟨hnb, hn35⟩, he, hi2, y, hy, hs⟩ := hx.take P (allR P) A.length T hO hst (by omega) h32
    have hlt : A.length < (allR P).length := by omega
    have hTl : T.length < 4096 := by simp only [List.length_cons] at hT; omega
    have s1 := runB_tok hlt hnb hn35 he hy hi2 hTl
    have s2 : runB P (allR P) (A.length + x.text.size) false (T ++ [y]) = runB P (allR P) (A.length + x.text.size + 1) false (T ++ [y]) := blank_step _ (by omega) (by rw [h32]; decide)
    obtain ⟨ys, h1, h2, h3⟩ := ih (A := A ++ x.text.data.toList ++ [32]) (fun z hz => hag z (List.mem_cons_of_mem _ hz)) (by rw [hA2]; simp) (T := T ++ [y]) (by simp only [List.length_append, List.length_cons, List.length_nil] at hT ⊢; omega)
    refine ⟨y :: ys, ?_, by simp [h2], ?_⟩
    · rw [s1, s2]
      rw [show A.length + x.text.size + 1 = (A ++ x.text.data.toList ++ [32]).length by simp; omega]
      rw [h1]; simp
    · intro k a b ha hb
      cases k with
      | zero =>
        simp only [List.getElem?_cons_zero, Option.some.injEq] at ha hb
        subst ha; subst hb
        exact ⟨hs.1.symm, hs.2.1.symm, hs.2.2.symm⟩
      | succ k =>
        simp only [List.getElem?_cons_succ] at ha hb
        exact h3 k a b ha hb

theorem again_took (s : ByteArray) (hs : s.size ≤ 3000) (he : (tokRes s).er = 0) : ∃ R j, (tokRes s).T = R ++ [endTk s] ∧ R.length ≤ 4096 ∧ Took2 (allR s) j R ∧ (allR s).length ≤ 3000 := by
  have hlen := restG_len (decR s) s 0 1 1
  have hl : (allR s).length ≤ 3000 := by unfold allR; omega
  obtain ⟨R, hT, hR, _, _, _⟩ := tokRes_rises s he
  have h1 : (runT s (allR s) (allR s).length 0 []).er = 0 ∧ (runT s (allR s) (allR s).length 0 []).T = R := by
    unfold tokRes at he hT
    rw [if_neg (by omega)] at he hT
    by_cases h : (runT s (allR s) (allR s).length 0 []).er ≠ 0
    · rw [if_pos h] at he; exact absurd he h
    · rw [if_neg h] at hT
      exact ⟨by omega, (List.append_inj' hT rfl).1⟩
  obtain ⟨j, hj⟩ := runT_again (rnOk s (by omega)) (allR s).length 0 [] ⟨by simp [sumT], Nat.zero_le _, by simp⟩ h1.1
  exact ⟨R, j, hT, hR, by rw [← h1.2]; exact hj, hl⟩
theorem again_sum (s : ByteArray) (hs : s.size ≤ 3000) (he : (tokRes s).er = 0) : (tokRes s).T.length ≤ 5000 ∧ sumT (tokRes s).T ≤ 100000 := by
  obtain ⟨R, j, hT, hR, hj, hl⟩ := again_took s hs he
  have := hj.sum
  have := hj.le
  rw [hT, sum_snoc, List.length_append, List.length_singleton]
  have : (endTk s).text.size = 0 := rfl
  omega

/-- THE LAW: the texts of a text's tokens have the same tokens, but for places -/
theorem again_res (s P : ByteArray) (hs : s.size ≤ 3000) (he : (tokRes s).er = 0) (hP : P.data.toList = pj (tokRes s).T) :
    P.size ≤ 6001 ∧ (tokRes P).er = 0 ∧ (tokRes P).T.length = (tokRes s).T.length ∧ ∀ (k : Nat) (x y : Tk), (tokRes s).T[k]? = some x → (tokRes P).T[k]? = some y → SameTk x y := by
  obtain ⟨R, j, hT, hR, hj, hl⟩ := again_took s hs he
  have hjl := hj.le
  have hjs := hj.sum
  have hge := sum_ge R (fun x hx => (hj.ag x hx).ne)
  rw [hT, pj_end R (endTk s) rfl] at hP
  have hsz : P.data.toList.length = P.size := by simp
  have hPs : P.size = sumT R + R.length := by rw [← hsz, hP, join_len]
  have hasc : AsciiT P := by
    intro k hk
    have hk1 : k < P.data.toList.length := by omega
    have hm : P.data.toList[k] ∈ joinT R := by rw [← hP]; exact List.getElem_mem hk1
    have hq : ∀ b ∈ joinT R, b.toNat < 128 := by
      intro b hb
      unfold joinT at hb
      obtain ⟨x, hx, hb2⟩ := List.mem_flatMap.1 hb
      rcases List.mem_append.1 hb2 with h | h
      · exact (hj.ag x hx).asc b h
      · rw [List.mem_singleton.1 h]; decide
    exact hq _ hm
  obtain ⟨hPl, _⟩ := allR_ascii P hasc
  have hl2 : (allR P).length ≤ 16384 := by omega
  obtain ⟨ys, h1, h2, h3⟩ := run_join hl2 hasc [] R hj.ag (by rw [hP]; rfl) [] (by simp; omega)
  obtain ⟨t1, t2, t3⟩ := tokRes_of hl2
  rw [show ([] : List UInt8).length = 0 from rfl] at h1
  rw [h1] at t1 t3
  have hTP := t3 rfl
  rw [List.nil_append] at hTP
  refine ⟨by omega, t1, by rw [hTP, hT]; simp [h2], ?_⟩
  rw [hTP, hT]
  intro k x y hx hy
  by_cases hk : k < R.length
  · rw [List.getElem?_append_left hk] at hx
    rw [List.getElem?_append_left (l₁ := ys) (by omega)] at hy
    exact h3 k x y hx hy
  · rw [List.getElem?_append_right (by omega)] at hx
    rw [List.getElem?_append_right (l₁ := ys) (by omega), h2] at hy
    have hk0 : k - R.length = 0 := by
      have := (List.getElem?_eq_some_iff.1 hx).1
      simp at this; omega
    rw [hk0] at hx hy
    simp only [List.getElem?_cons_zero, Option.some.injEq] at hx hy
    subst hx; subst hy
    exact ⟨rfl, rfl, rfl⟩

end Go.Proofs.YthbbbccefjemmaaDoor
