/- Plain: the tokens of a text in brackets, each on a line of its own. Plain: a formula's text is read as that formula; what was read, and told, is read as the same. Contracts of warderlaw06's great and awake. -/
import Derived.Test.YthhjepgcbfmfeaaGreatDoorSb31
import Derived.Test.YthhjepgcbfmfeaaGreatDoorSb23
import Derived.Test.YthhjepgcbfmfeaaGreatDoorSb26

namespace Go.Proofs.YthhjepgcbfmfeaaGreatDoor
open Go.RowKit

/-- a text in brackets -/
def brk (s : ByteArray) : ByteArray := ⟨#[40, 10]⟩ ++ s ++ ⟨#[10, 41]⟩
theorem brk_size (s : ByteArray) : (brk s).size = s.size + 4 := by
  unfold brk
  rw [ByteArray.size_append, ByteArray.size_append]
  show 2 + s.size + 2 = _
  omega
theorem brk_list (s : ByteArray) : (brk s).data.toList = [40, 10] ++ (s.data.toList ++ [10, 41]) := by
  unfold brk
  simp [ByteArray.data_append]
theorem brk_next (s : ByteArray) : (brk s).get! (2 + s.size) = 10 := by
  rw [get_list, brk_list, List.getD_eq_getElem?_getD, List.getElem?_append_right (by simp), List.getElem?_append_right (by simp)]
  simp
theorem brk_inner (s : ByteArray) : Inner s (brk s) 2 where
  byte := fun k hk => by
    rw [get_list, get_list, brk_list, List.getD_eq_getElem?_getD, List.getD_eq_getElem?_getD, List.getElem?_append_right (by simp), List.getElem?_append_left (by simp; omega)]
    congr 2
    simp
  next := .inl ⟨by rw [brk_size]; omega, brk_next s⟩
  cut := fun f t ht => by
    apply ba_ext
    rw [ext_list, ext_list, brk_list, show t + 2 - (f + 2) = t - f by omega]
    have hl : s.data.toList.length = s.size := by simp
    show List.take (t - f) (List.drop f (s.data.toList ++ [10, 41])) = _
    by_cases hf : f ≤ s.size
    · rw [List.drop_append_of_le_length (by omega), List.take_append_of_le_length (by rw [List.length_drop]; omega)]
    · rw [show t - f = 0 by omega]; rfl

theorem brk_last (s : ByteArray) : (brk s).data.toList[3 + s.size]? = some 41 := by
  have hl : s.data.toList.length = s.size := by simp
  rw [brk_list, List.getElem?_append_right (by simp only [List.length_cons, List.length_nil]; omega), List.getElem?_append_right (by simp only [List.length_cons, List.length_nil]; omega)]
  have e : 3 + s.size - [(40 : UInt8), 10].length - s.data.toList.length = 1 := by simp only [List.length_cons, List.length_nil]; omega
  rw [e]; rfl
theorem brk_at0 (s : ByteArray) : (brk s).get! 0 = 40 ∧ (brk s).get! 1 = 10 ∧ (brk s).get! (2 + s.size) = 10 ∧ (brk s).get! (3 + s.size) = 41 := by
  refine ⟨?_, ?_, ?_, ?_⟩
  · rw [get_list, brk_list]; rfl
  · rw [get_list, brk_list]; rfl
  · exact brk_next s
  · rw [get_list, List.getD_eq_getElem?_getD, brk_last]; rfl

theorem brk_runes (s : ByteArray) : ∃ x0 x1 Y x3 x4, allR (brk s) = x0 :: x1 :: (Y ++ [x3, x4]) ∧ ShL 2 (allR s) Y ∧ x0.r = 40 ∧ x0.fr = 0 ∧ x0.to = 1 ∧ x1.r = 10 ∧ x3.r = 10 ∧ x4.r = 41 ∧ x4.fr = 3 + s.size ∧ x4.to = 4 + s.size := by
  obtain ⟨g0, g1, g2, g3⟩ := brk_at0 s
  have d0 := dec_ascii (P := brk s) (p := 0) (by rw [g0]; decide)
  have d1 := dec_ascii (P := brk s) (p := 1) (by rw [g1]; decide)
  have d2 := dec_ascii (P := brk s) (p := 2 + s.size) (by rw [g2]; decide)
  have d3 := dec_ascii (P := brk s) (p := 3 + s.size) (by rw [g3]; decide)
  rw [g0] at d0; rw [g1] at d1; rw [g2] at d2; rw [g3] at d3
  have hs := brk_size s
  unfold allR
  rw [restG_cons _ _ _ _ _ (show 0 < (brk s).size by omega), d0.1, d0.2, restG_cons _ _ _ _ _ (show 0 + 1 < (brk s).size by omega), show 0 + 1 = 1 from rfl, d1.1, d1.2, show 1 + 1 = 2 + 0 from rfl]
  obtain ⟨Y, l2, c2, e, hY⟩ := (brk_inner s).runes (s.size - 0) 0 1 1 (nextLine ((10 : UInt8).toNat : Int) (nextLine ((40 : UInt8).toNat : Int) 1)) (nextCol ((10 : UInt8).toNat : Int) (nextCol ((40 : UInt8).toNat : Int) 1)) (by omega) (by omega)
  rw [e, restG_cons _ _ _ _ _ (show 2 + s.size < (brk s).size by omega), d2.1, d2.2, show 2 + s.size + 1 = 3 + s.size by omega, restG_cons _ _ _ _ _ (show 3 + s.size < (brk s).size by omega), d3.1, d3.2, restG_nil _ _ _ _ _ (by omega)]
  exact ⟨_, _, Y, _, _, rfl, hY, rfl, rfl, rfl, rfl, rfl, rfl, rfl, by dsimp only; omega⟩

theorem brk_shf (s : ByteArray) (hs : s.size ≤ 3000) : Shf s (brk s) (allR s) (allR (brk s)) 2 2 ∧ (allR (brk s)).length = (allR s).length + 4 ∧ rAt (allR (brk s)) 0 = 40 ∧ rAt (allR (brk s)) 1 = 10 ∧ rAt (allR (brk s)) ((allR s).length + 3) = 41 ∧ rAt (allR (brk s)) ((allR s).length + 2) = 10 ∧
    txt (brk s) (allR (brk s)) 0 1 = ⟨#[40]⟩ ∧ txt (brk s) (allR (brk s)) ((allR s).length + 3) 1 = ⟨#[41]⟩ := by
  obtain ⟨x0, x1, Y, x3, x4, e, hY, a0, b0, c0, a1, a3, a4, b4, c4⟩ := brk_runes s
  have hlen : (allR s).length ≤ s.size := by have := restG_len (decR s) s 0 1 1; simpa [allR] using this
  have hok := rnOk s (by omega)
  have hl := hY.1
  have at2 : ∀ j, (allR (brk s))[j + 2]? = (Y ++ [x3, x4])[j]? := fun j => by rw [e]; rfl
  have e3 : (allR (brk s))[(allR s).length + 2]? = some x3 := by rw [at2, hl, List.getElem?_append_right (Nat.le_refl _), Nat.sub_self]; rfl
  have e4 : (allR (brk s))[(allR s).length + 3]? = some x4 := by
    rw [show (allR s).length + 3 = (allR s).length + 1 + 2 by omega, at2, hl, List.getElem?_append_right (by omega), show Y.length + 1 - Y.length = 1 by omega]; rfl
  have e0 : (allR (brk s))[0]? = some x0 := by rw [e]; rfl
  have e1 : (allR (brk s))[1]? = some x1 := by rw [e]; rfl
  have hln : (allR (brk s)).length = (allR s).length + 4 := by rw [e, hl]; simp
  refine ⟨⟨fun j x hx => ?_, ?_, (brk_inner s).cut, fun j x hx => (hok.le j j x x (Nat.le_refl _) hx hx).2⟩, hln, ?_, ?_, ?_, ?_, ?_, ?_⟩
  · obtain ⟨y, hy, h1, h2, h3⟩ := hY.2 j x hx
    refine ⟨y, ?_, h1, h2, h3⟩
    rw [at2, List.getElem?_append_left (by have := (List.getElem?_eq_some_iff.1 hy).1; exact this)]
    exact hy
  · exact .inl (by rw [rAt_some e3, a3])
  · rw [rAt_some e0, a0]
  · rw [rAt_some e1, a1]
  · rw [rAt_some e4, a4]
  · rw [rAt_some e3, a3]
  · unfold txt
    rw [(at_some e0).2.1, show 0 + (1 - 1) = 0 from rfl, (at_some e0).2.2.1, b0, c0]
    apply ba_ext
    rw [ext_list, brk_list]; rfl
  · unfold txt
    rw [(at_some e4).2.1, show (allR s).length + 3 + (1 - 1) = (allR s).length + 3 from rfl, (at_some e4).2.2.1, b4, c4]
    apply ba_ext
    rw [ext_list, show 4 + s.size - (3 + s.size) = 1 by omega]
    exact take_one (brk_last s)

theorem sign_br (c d : Int) (h : c = 40 ∨ c = 41) : signN c d = 1 := by
  unfold signN; rcases h with rfl | rfl <;> simp
theorem one_br {P : ByteArray} {L : List Rn} {i : Nat} {T : List Tk} {c : Int} (h : rAt L i = c) (hc : c = 40 ∨ c = 41) (hT : T.length < 4096) : oneT P L i T = ⟨0, 0, 0, i + 1, T ++ [⟨4, txt P L i 1, 0, lineAt L i, colAt L i⟩]⟩ := by
  have e1 : blankB c = false := by rcases hc with rfl | rfl <;> rfl
  have e2 : c ≠ 35 := by omega
  have e3 : letterB c = false := by rcases hc with rfl | rfl <;> rfl
  have e4 : isNum L i = false := by unfold isNum; rw [h]; rcases hc with rfl | rfl <;> rfl
  have e5 : signT P L i T = ⟨0, 0, 0, i + 1, T ++ [⟨4, txt P L i 1, 0, lineAt L i, colAt L i⟩]⟩ := by
    unfold signT; rw [h, sign_br c _ hc]; rfl
  unfold oneT tokT
  rw [h, e1, e3, e4]
  simp only [Bool.false_eq_true, if_false]
  rw [if_neg e2, e5]
  unfold capT
  rw [if_neg (by simp), if_neg (by simp; omega)]

/-- the tokens of a text in brackets -/
theorem brk_tok (s : ByteArray) (hs : s.size ≤ 3000) (he : (tokRes s).er = 0) : ∃ R R2 l c l2 c2, (tokRes s).T = R ++ [endTk s] ∧ (tokRes (brk s)).er = 0 ∧ (tokRes (brk s)).T = [⟨4, sOpen, 0, l, c⟩] ++ R2 ++ [⟨4, sClose, 0, l2, c2⟩] ++ [endTk (brk s)] ∧ TwinL R R2 ∧ ∀ x ∈ R, x.kind ≠ 5 := by
  obtain ⟨hS, hl, r0, r1, r4, r3, t0, t4⟩ := brk_shf s hs
  have hlen : (allR s).length ≤ s.size := by have := restG_len (decR s) s 0 1 1; simpa [allR] using this
  obtain ⟨R0, hR0, _, _, hk, _⟩ := tokRes_rises s he
  have hu : (runT s (allR s) (allR s).length 0 []).er = 0 ∧ (tokRes s).T = (runT s (allR s) (allR s).length 0 []).T ++ [endTk s] := by
    unfold tokRes at he ⊢
    rw [if_neg (by omega)] at he ⊢
    by_cases q : (runT s (allR s) (allR s).length 0 []).er ≠ 0
    · rw [if_pos q] at he; exact absurd he q
    · rw [if_neg q]; exact ⟨by omega, rfl⟩
  obtain ⟨hu0, hu1⟩ := hu
  have hRR : R0 = (runT s (allR s) (allR s).length 0 []).T := by
    rw [hR0] at hu1
    exact (List.append_inj' hu1 rfl).1
  obtain ⟨k3, T3, hk3, hT3, hln, hrun⟩ := hS.run [⟨4, sOpen, 0, lineAt (allR (brk s)) 0, colAt (allR (brk s)) 0⟩] (by simp; omega) (allR s).length 0 [] [] (by omega) (by omega) (by simp) TwinL.nil hu0 ((allR s).length + 2) (by omega)
  obtain ⟨k4, rfl⟩ : ∃ q, k3 = q + 2 := ⟨k3 - 2, by omega⟩
  have hT3l := hT3.1
  have hfull : runT (brk s) (allR (brk s)) (allR (brk s)).length 0 [] = ⟨0, 0, 0, (allR s).length + 4, [⟨4, sOpen, 0, lineAt (allR (brk s)) 0, colAt (allR (brk s)) 0⟩] ++ T3 ++ [⟨4, sClose, 0, lineAt (allR (brk s)) ((allR s).length + 3), colAt (allR (brk s)) ((allR s).length + 3)⟩]⟩ := by
    rw [show (allR (brk s)).length = (allR s).length + 2 + 1 + 1 by omega]
    rw [run_step (by omega) (one_br r0 (.inl rfl) (by simp)), run_step (by omega) (one_blank r1), t0]
    rw [Nat.zero_add] at hrun
    rw [show (0 : Nat) + 1 + 1 = 2 from rfl]
    rw [List.append_nil] at hrun
    refine hrun.trans ?_
    rw [run_step (by omega) (one_blank r3), run_step (by omega) (one_br (i := (allR s).length + 2 + 1) r4 (.inr rfl) (by simp; omega)), t4]
    cases k4 with
    | zero => rfl
    | succ k4 => rw [runT, if_neg (by omega)]; rfl
  refine ⟨_, T3, lineAt (allR (brk s)) 0, colAt (allR (brk s)) 0, lineAt (allR (brk s)) ((allR s).length + 3), colAt (allR (brk s)) ((allR s).length + 3), hu1, ?_, ?_, hT3, ?_⟩
  · unfold tokRes
    rw [if_neg (by omega), hfull]; rfl
  · unfold tokRes
    rw [if_neg (by omega), hfull]; rfl
  · intro x hx
    rw [← hRR] at hx
    have := hk x hx
    omega

theorem tkAt_nat (T : List Tk) (i : Nat) : tkAt T (i : Int) = (match T[i]? with | some x => x | none => noTk) := by
  unfold tkAt
  rw [if_neg (by omega), Int.toNat_natCast]
  rfl
theorem tkAt_neg {T : List Tk} {i : Int} (h : i < 0) : tkAt T i = noTk := by unfold tkAt; rw [if_pos h]

theorem brk_in {R R2 : List Tk} {a b e f : Tk} (h : TwinL R R2) (hk : ∀ x ∈ R, x.kind ≠ 5) (ha : a.kind = 4) (hb : b.kind = 4) (he : e.kind = 5) (hf : f.kind = 5) :
    InBr (R ++ [e]) ([a] ++ R2 ++ [b] ++ [f]) where
  low := fun i hi => by
    have h0 : 0 ≤ i := Classical.byContradiction fun hc => hi (by rw [tkAt_neg (by omega)]; rfl)
    obtain ⟨n, rfl⟩ : ∃ n : Nat, i = n := ⟨i.toNat, by omega⟩
    have hl := h.1
    by_cases hn : n < R.length
    · have hx := List.getElem?_eq_getElem hn
      have hy := List.getElem?_eq_getElem (show n < R2.length by omega)
      rw [show (n : Int) + 1 = ((n + 1 : Nat) : Int) from rfl, tkAt_nat, tkAt_nat, List.getElem?_append_left hn, hx, List.append_assoc, List.append_assoc, List.getElem?_append_right (by simp), show n + 1 - [a].length = n by simp, List.getElem?_append_left (by omega), hy]
      exact h.2 n _ _ hx hy
    · exfalso
      apply hi
      rw [tkAt_nat]
      by_cases hn2 : n = R.length
      · rw [hn2, List.getElem?_append_right (Nat.le_refl _), Nat.sub_self]; exact he
      · rw [List.getElem?_eq_none (by simp; omega)]; rfl
  high := fun i hi => by
    have hl := h.1
    by_cases h0 : i < -1
    · exact .inr (by rw [tkAt_neg (by omega)]; rfl)
    by_cases h1 : i = -1
    · subst h1; exact .inl ha
    obtain ⟨n, rfl⟩ : ∃ n : Nat, i = n := ⟨i.toNat, by omega⟩
    rw [tkAt_nat] at hi
    rw [show (n : Int) + 1 = ((n + 1 : Nat) : Int) from rfl, tkAt_nat]
    by_cases hn : n < R.length
    · rw [List.getElem?_append_left hn, List.getElem?_eq_getElem hn] at hi
      exact absurd hi (hk _ (List.getElem_mem hn))
    by_cases hn2 : n = R.length
    · left
      rw [List.getElem?_append_left (by simp; omega), List.getElem?_append_right (by simp; omega), show n + 1 - ([a] ++ R2).length = 0 by simp; omega]
      exact hb
    right
    by_cases hn3 : n = R.length + 1
    · rw [List.getElem?_append_right (by simp; omega), show n + 1 - ([a] ++ R2 ++ [b]).length = 0 by simp; omega]
      exact hf
    · rw [List.getElem?_eq_none (by simp; omega)]; rfl
  len := by have := h.1; simp; omega

/-- a text in brackets is read as the text -/
theorem whole_B {s : ByteArray} (hs : s.size ≤ 3000) {prop : Bool} {o : List It} {a : Int} (h : wholeP s prop = .ok o a) :
    (∃ o' a', wholeP (brk s) prop = .ok o' a' ∧ barL o' = barL o) ∨ ∃ l c, wholeP (brk s) prop = .bad 5 l c := by
  have h1 : (tokRes s).er = 0 ∧ readP (tokRes s).T prop 0 = .ok o a ∧ (tkAt (tokRes s).T a).kind = 5 := by
    unfold wholeP at h
    split at h
    · cases h
    · rename_i q
      cases hp : readP (tokRes s).T prop 0 with
      | bad e l c => rw [hp] at h; cases h
      | ok o1 a1 =>
        rw [hp] at h
        dsimp only at h
        split at h
        · rename_i q5; obtain ⟨rfl, rfl⟩ := okB h; exact ⟨by omega, rfl, q5⟩
        · cases h
  obtain ⟨h0, h2, h5⟩ := h1
  obtain ⟨R, R2, l, c, l2, c2, e1, e2, e3, e4, e5⟩ := brk_tok s hs h0
  have hin := brk_in e4 e5 (a := ⟨4, sOpen, 0, l, c⟩) (b := ⟨4, sClose, 0, l2, c2⟩) (e := endTk s) (f := endTk (brk s)) rfl rfl rfl rfl
  have hg := readP_in h2
  have hl := e4.1
  rw [e1] at h2 h5 hg
  have ha : a = (R.length : Int) := by
    obtain ⟨n, rfl⟩ : ∃ n : Nat, a = n := ⟨a.toNat, by omega⟩
    have h7 : (R ++ [endTk s]).length = R.length + 1 := by simp
    by_cases hn : n < R.length
    · rw [tkAt_nat, List.getElem?_append_left hn, List.getElem?_eq_getElem hn] at h5
      exact absurd h5 (e5 _ (List.getElem_mem hn))
    · by_cases hn2 : n = R.length
      · rw [hn2]
      · have hn3 : n = R.length + 1 := by omega
        exfalso
        apply hg.2.2.2
        rw [hn3, show ((R.length + 1 : Nat) : Int) - 1 = ((R.length : Nat) : Int) by omega, tkAt_nat, List.getElem?_append_right (Nat.le_refl _), Nat.sub_self]; rfl
  have ho : isTk ([⟨4, sOpen, 0, l, c⟩] ++ R2 ++ [⟨4, sClose, 0, l2, c2⟩] ++ [endTk (brk s)]) 0 4 sOpen = true := by
    unfold isTk; simp [tkAt]
  have hc : isTk ([⟨4, sOpen, 0, l, c⟩] ++ R2 ++ [⟨4, sClose, 0, l2, c2⟩] ++ [endTk (brk s)]) (a + 1) 4 sClose = true := by
    unfold isTk
    rw [ha, show (R.length : Int) + 1 = ((R.length + 1 : Nat) : Int) from rfl, tkAt_nat, List.getElem?_append_left (by simp; omega), List.getElem?_append_right (by simp; omega), show R.length + 1 - ([(⟨4, sOpen, 0, l, c⟩ : Tk)] ++ R2).length = 0 by simp; omega]
    simp
  have hend : (tkAt ([⟨4, sOpen, 0, l, c⟩] ++ R2 ++ [⟨4, sClose, 0, l2, c2⟩] ++ [endTk (brk s)]) (a + 2)).kind = 5 := by
    rw [ha, show (R.length : Int) + 2 = ((R.length + 2 : Nat) : Int) from rfl, tkAt_nat, List.getElem?_append_right (by simp; omega), show R.length + 2 - ([(⟨4, sOpen, 0, l, c⟩ : Tk)] ++ R2 ++ [(⟨4, sClose, 0, l2, c2⟩ : Tk)]).length = 0 by simp; omega]
    rfl
  rcases read_B hin ho hc hend h2 with ⟨o', g1, g2⟩ | ⟨l', c', g1⟩
  · refine .inl ⟨o', a + 2, ?_, g2⟩
    unfold wholeP
    rw [if_neg (by omega), e3, g1]
    dsimp only
    rw [if_pos hend]
  · refine .inr ⟨l', c', ?_⟩
    unfold wholeP
    rw [if_neg (by omega), e3, g1]

end Go.Proofs.YthhjepgcbfmfeaaGreatDoor

namespace Go.Proofs.YthhjepgcbfmfeaaGreatDoor
open Go.RowKit

theorem inTk_len (b : Bool) (U : List Tk) : (inTk b U).length ≤ U.length + 2 := by
  unfold inTk; split <;> simp
theorem tkF_len : ∀ f : Fm, (tkF f).length ≤ 6 * f.flat.length
  | .leaf x _ => by
    show (atomTk x).length ≤ 6
    unfold atomTk
    repeat' split
    all_goals simp
  | .one x _ f => by
    have h := tkF_len f
    have h2 := inTk_len (decide (tightN f.op < 4)) (tkF f)
    simp only [tkF, Fm.flat, List.length_append, List.length_cons, List.length_nil]; omega
  | .two x _ f g => by
    have h := tkF_len f
    have k := tkF_len g
    have a3 := inTk_len (decide (tightN f.op < 3)) (tkF f)
    have a2 := inTk_len (decide (tightN f.op < 2)) (tkF f)
    have b4 := inTk_len (decide (tightN g.op < 4)) (tkF g)
    have b3 := inTk_len (decide (tightN g.op < 3)) (tkF g)
    have b1 := inTk_len (decide (tightN g.op < 1)) (tkF g)
    simp only [tkF, Fm.flat, List.length_append, List.length_cons, List.length_nil]
    unfold twoTk
    split
    · simp only [List.length_append, List.length_cons, List.length_nil]; omega
    split
    · simp only [List.length_append, List.length_cons, List.length_nil]; omega
    split
    · simp only [List.length_append, List.length_cons, List.length_nil]; omega
    · simp only [List.length_append, List.length_cons, List.length_nil]; omega

/-- a formula's text, read -/
theorem back_law {f : Fm} (hn : ∀ x ∈ f.flat, namedB x = true) (hs : ∀ x ∈ f.flat, Short x) (hl : f.flat.length ≤ 64) :
    (needF f ≤ 25 → ∃ o a, wholeP (textF f) true = .ok o a ∧ barL o = f.flat.map canI) ∧ (25 < needF f → ∃ l c, wholeP (textF f) true = .bad 5 l c) := by
  have hsz := textF_size f hs
  have htl := tkF_len f
  obtain ⟨h0, V, hT, hV⟩ := seg_tokRes (textF_seg f hn hs) (by omega) (by omega)
  have hlen := hV.1
  have hA : AtT (V ++ [endTk (textF f)]) 0 (tkF f) := fun k x hx => by
    have hk := (List.getElem?_eq_some_iff.1 hx).1
    have hy := List.getElem?_eq_getElem (show k < V.length by omega)
    rw [tkAt_nat, Nat.zero_add, List.getElem?_append_left (by omega), hy]
    exact hV.2 k x _ hx hy
  have hend : tkAt (V ++ [endTk (textF f)]) ((0 + (tkF f).length : Nat) : Int) = endTk (textF f) := by
    rw [tkAt_nat, Nat.zero_add, hlen, List.getElem?_append_right (Nat.le_refl _), Nat.sub_self]; rfl
  have hno : ∀ wd, isTk (V ++ [endTk (textF f)]) ((0 + (tkF f).length : Nat) : Int) 2 wd = false := fun wd => by
    unfold isTk; rw [hend]; rfl
  have H := (read_all (V ++ [endTk (textF f)]) f).f 25 0 hA (hno _) (hno _) (hno _)
  have hw : wholeP (textF f) true = (match readP (V ++ [endTk (textF f)]) true 0 with
    | .bad e l c => .bad e l c
    | .ok o a => if (tkAt (V ++ [endTk (textF f)]) a).kind = 5 then .ok o a else .bad 4 (tkAt (V ++ [endTk (textF f)]) a).line (tkAt (V ++ [endTk (textF f)]) a).col) := by
    unfold wholeP; rw [if_neg (by omega), hT]; rfl
  rw [hw]
  constructor
  · intro hd
    obtain ⟨o, e, hb⟩ := H.1 hd
    have hol : o.length = f.flat.length := by
      have := congrArg List.length hb
      simpa [barL] using this
    have hr : readP (V ++ [endTk (textF f)]) true 0 = .ok o ((0 + (tkF f).length : Nat) : Int) := by
      unfold readP
      have e2 : (bothP (V ++ [endTk (textF f)]) true 25).2 0 = .ok o ((0 + (tkF f).length : Nat) : Int) := e
      rw [e2]
      dsimp only
      rw [if_neg (by omega)]
    rw [hr]
    dsimp only
    rw [hend, if_pos (by rfl)]
    exact ⟨o, _, rfl, hb⟩
  · intro hd
    obtain ⟨l, c, e⟩ := H.2 hd
    have hr : readP (V ++ [endTk (textF f)]) true 0 = .bad 5 l c := by
      unfold readP
      have e2 : (bothP (V ++ [endTk (textF f)]) true 25).2 0 = .bad 5 l c := e
      rw [e2]
    rw [hr]
    exact ⟨l, c, rfl⟩

/-- what was read -/
theorem whole_F {s : ByteArray} {o : List It} {a : Int} (h : wholeP s true = .ok o a) : ∃ f : Fm, f.flat = o ∧ needF f ≤ 25 ∧ (∀ x ∈ o, GoodI x) ∧ o.length ≤ 64 := by
  unfold wholeP at h
  split at h
  · cases h
  rename_i q
  cases hp : readP (tokRes s).T true 0 with
  | bad e l c => rw [hp] at h; cases h
  | ok o1 a1 =>
    rw [hp] at h
    dsimp only at h
    split at h
    · obtain ⟨rfl, rfl⟩ := okB h
      have hT := tokRes_tkok s (by omega)
      unfold readP at hp
      cases hb : (bothP (tokRes s).T true 25).2 0 with
      | bad e l c => rw [hb] at hp; cases hp
      | ok o2 a2 =>
        rw [hb] at hp
        dsimp only at hp
        split at hp
        · cases hp
        · rename_i h64
          obtain ⟨rfl, rfl⟩ := okB hp
          obtain ⟨f, e, hn, hg⟩ := (both_F hT 25).2 _ _ _ hb
          refine ⟨f, e, ?_, hg, by omega⟩
          have := tight_le f.op
          unfold lv at hn
          rwa [if_neg (by omega)] at hn
    · cases h

/-! places do not matter -/
def bareFm : Fm → Fm
  | .leaf x h => .leaf x.bare h
  | .one x h f => .one x.bare h (bareFm f)
  | .two x h f g => .two x.bare h (bareFm f) (bareFm g)
theorem bareFm_flat : ∀ f : Fm, (bareFm f).flat = barL f.flat
  | .leaf x h => rfl
  | .one x h f => by simp only [bareFm, Fm.flat, bareFm_flat f, barL_app]; rfl
  | .two x h f g => by simp only [bareFm, Fm.flat, bareFm_flat f, bareFm_flat g, barL_app]; rfl
theorem bareFm_op : ∀ f : Fm, (bareFm f).op = f.op
  | .leaf _ _ => rfl
  | .one _ _ _ => rfl
  | .two _ _ _ _ => rfl
theorem bareFm_text : ∀ f : Fm, textF (bareFm f) = textF f
  | .leaf x h => rfl
  | .one x h f => by simp only [bareFm, textF, bareFm_text f, bareFm_op]; rfl
  | .two x h f g => by simp only [bareFm, textF, bareFm_text f, bareFm_text g, bareFm_op]; rfl
theorem text_same {f g : Fm} (h : barL f.flat = barL g.flat) : textF f = textF g := by
  have h1 := treeF_of (bareFm f)
  have h2 := treeF_of (bareFm g)
  rw [bareFm_flat] at h1 h2
  rw [h, h2] at h1
  rw [← bareFm_text f, ← bareFm_text g, Option.some.inj h1]
theorem goodI_bar {l : List It} (h : ∀ x ∈ l, GoodI x) : l.map canI = barL l := by
  unfold barL
  exact List.map_congr_left fun x hx => (h x hx).2.2
/-- what was read, told: its text; read again: the same; told again: the same -/
theorem once_law {s : ByteArray} {o : List It} {a : Int} (h : wholeP s true = .ok o a) :
    ∃ (t : ByteArray) (p : List It) (b : Int), formR o = (t, 0) ∧ (∀ x ∈ o, Short x) ∧ t.size ≤ 8960 ∧ wholeP t true = .ok p b ∧ o.map It.bare = p.map It.bare ∧ formR p = (t, 0) ∧ (∀ x ∈ p, Short x) ∧ o.length ≤ 64 := by
  obtain ⟨f, hf, hd, hg, hl⟩ := whole_F h
  have hn : ∀ x ∈ f.flat, namedB x = true := fun x hx => (hg x (by rw [← hf]; exact hx)).1
  have hs : ∀ x ∈ f.flat, Short x := fun x hx => (hg x (by rw [← hf]; exact hx)).2.1
  have hfl : f.flat.length ≤ 64 := by rw [hf]; exact hl
  obtain ⟨p, b, hp, hb⟩ := (back_law hn hs hfl).1 hd
  obtain ⟨g, hgf, hgd, hgg, hgl⟩ := whole_F hp
  have hbar : barL p = barL o := by rw [hb, hf, goodI_bar hg]
  have ht : textF g = textF f := text_same (by rw [hgf, hf, hbar])
  have hsz := textF_size f hs
  refine ⟨textF f, p, b, ?_, fun x hx => (hg x hx).2.1, by omega, hp, hbar.symm, ?_, fun x hx => (hgg x hx).2.1, hl⟩
  · have := formR_of f hfl
    rw [hf, if_neg] at this
    · exact this
    · rw [Bool.not_eq_false, List.all_eq_true]; exact fun x hx => (hg x hx).1
  · have := formR_of g (by rw [hgf]; exact hgl)
    rw [hgf, if_neg, ht] at this
    · exact this
    · rw [Bool.not_eq_false, List.all_eq_true]; exact fun x hx => (hgg x hx).1

/-- what clean asks of two items -/
structure Cln (x y : It) : Prop where
  op : y.op = x.op
  name : 9 ≤ x.op → x.op ≤ 12 → y.name = x.name
  user : x.op = 12 → y.user = x.user
  words : 3 ≤ x.op → x.op ≤ 8 → y.ln = x.ln ∧ y.rn = x.rn ∧ (x.ln.size = 0 → y.lnum = x.lnum) ∧ (x.rn.size = 0 → y.rnum = x.rnum)
theorem nmI_eq (n : ByteArray) : nmI n = n := by
  unfold nmI
  split
  · rename_i h
    exact (ba_ext (by rw [List.length_eq_zero_iff.1 (show n.data.toList.length = 0 by simpa using h)])).symm
  · rfl
theorem cln_of {x y : It} (h : y.bare = canI x) : Cln x y := by
  unfold canI It.bare at h
  split at h
  · rename_i q
    simp only [It.mk.injEq, nmI_eq] at h
    obtain ⟨h1, h2, h3, h4, h5, _⟩ := h
    refine ⟨h1, fun a b => by omega, fun a => by omega, fun _ _ => ⟨h2, h4, fun z => ?_, fun z => ?_⟩⟩
    · rw [h3]; unfold nuI; rw [if_pos z]
    · rw [h5]; unfold nuI; rw [if_pos z]
  split at h
  · rename_i q
    simp only [It.mk.injEq] at h
    obtain ⟨h1, _, _, _, _, h6, h7, _⟩ := h
    exact ⟨by omega, fun _ _ => h6, fun _ => h7, fun a b => by omega⟩
  split at h
  · rename_i q
    simp only [It.mk.injEq] at h
    obtain ⟨h1, _, _, _, _, h6, h7, _⟩ := h
    exact ⟨h1, fun _ _ => h6, fun a => by omega, fun a b => by omega⟩
  · simp only [It.mk.injEq] at h
    exact ⟨h.1, fun a b => by omega, fun a => by omega, fun a b => by omega⟩
theorem cln_at {O o : List It} (h : barL o = O.map canI) : o.length = O.length ∧ ∀ (k : Nat) (x : It), O[k]? = some x → ∃ y, o[k]? = some y ∧ Cln x y := by
  have hl : o.length = O.length := by have := congrArg List.length h; simpa [barL] using this
  refine ⟨hl, fun k x hx => ?_⟩
  have hk := (List.getElem?_eq_some_iff.1 hx).1
  have hy := List.getElem?_eq_getElem (show k < o.length by omega)
  refine ⟨_, hy, cln_of ?_⟩
  have e : (barL o)[k]? = (O.map canI)[k]? := by rw [h]
  unfold barL at e
  rw [List.getElem?_map, List.getElem?_map, hx, hy] at e
  exact Option.some.inj e

end Go.Proofs.YthhjepgcbfmfeaaGreatDoor

namespace Go.Proofs.YthhjepgcbfmfeaaGreatDoor
open Go.RowKit

/-- the texts of an item are at most 60 bytes -/
def Low60 (x : It) : Prop := x.name.size ≤ 60 ∧ x.user.size ≤ 60 ∧ x.ln.size ≤ 60 ∧ x.rn.size ≤ 60

def GreatPost (O : List It) (w : World) (e : Ending) (w' : World) : Prop := ∃ b, e = .returned (.bool b) ∧ w' = w ∧ (b = false → O.length ≤ 81 ∧ ∀ x ∈ O, Low60 x)
set_option maxRecDepth 100000 in
set_option maxHeartbeats 4000000 in
theorem great_any {w : World} {v : Value} {O : List It} (h : ItIn w v O) :
    Calls Tryz.prog 5 #[v] w (GreatPost O w) := by
  obtain ⟨ad, cap, hv⟩ := h.len
  subst hv
  have HR := Lib.hid h
  clear h
  go_enter Tryz.func5, Tryz.ntmps5
  go_wp2
  go_loop [3] (fun i => ∃ (k : Nat), i = .int .i64 k ∧ k ≤ O.length ∧ k ≤ 81 ∧ Hid (∀ (j : Nat) (x : It), j < k → O[j]? = some x → Low60 x)) (fun i => O.length - (intOf i).toNat)
  case atStart => exact ⟨0, by go_num, by omega, by omega, fun j x hj => absurd hj (Nat.not_lt_zero j)⟩
  case round =>
    obtain ⟨k, rfl, hk, hk81, HALL⟩ := hrel
    by_cases hlt : k < O.length
    · have hkz : (k : Int) < (O.length : Int) := by omega
      by_cases h80 : (80 : Int) < (k : Int)
      · go_wp2
        go_ret
        exact ⟨true, rfl, rfl, fun h => absurd h (by decide)⟩
      obtain ⟨x, hx⟩ : ∃ x, O[k]? = some x := ⟨_, List.getElem?_eq_getElem hlt⟩
      obtain ⟨g, off, c1, hg, hgl, a0, a1, a2, a3, a4, a5, a6, a7, a8⟩ := HR.out.at hx
      simp only [Value.slice.injEq, true_and] at hg
      obtain ⟨rfl, rfl⟩ := hg
      clear hgl
      by_cases h1 : (60 : Int) < (x.name.size : Int)
      · clear hx
        go_wp2
        go_ret
        exact ⟨true, rfl, rfl, fun h => absurd h (by decide)⟩
      by_cases h2 : (60 : Int) < (x.user.size : Int)
      · clear hx
        go_wp2
        go_ret
        exact ⟨true, rfl, rfl, fun h => absurd h (by decide)⟩
      by_cases h3 : (60 : Int) < (x.ln.size : Int)
      · clear hx
        go_wp2
        go_ret
        exact ⟨true, rfl, rfl, fun h => absurd h (by decide)⟩
      by_cases h4 : (60 : Int) < (x.rn.size : Int)
      · clear hx
        go_wp2
        go_ret
        exact ⟨true, rfl, rfl, fun h => absurd h (by decide)⟩
      have HN : Hid (∀ (j : Nat) (y : It), j < k + 1 → O[j]? = some y → Low60 y) := by
        intro j y hj hy
        by_cases hjk : j < k
        · exact HALL.out j y hjk hy
        · obtain rfl : j = k := by omega
          rw [hx] at hy
          cases hy
          exact ⟨by omega, by omega, by omega, by omega⟩
      clear hx HALL
      go_wp2
      go_round
      case rel => exact ⟨k + 1, by go_num, by omega, by omega, HN.out⟩
      case measure => simp [intOf]; omega
    · have hkl : k = O.length := by omega
      have HF : Hid (O.length ≤ 81 ∧ ∀ x ∈ O, Low60 x) := by
        refine ⟨by omega, fun x hx => ?_⟩
        obtain ⟨j, hj, he⟩ := List.getElem_of_mem hx
        exact HALL.out j x (by omega) (by rw [List.getElem?_eq_getElem hj, he])
      subst hkl
      clear HALL
      go_wp2
      go_ret
      exact ⟨false, rfl, rfl, fun _ => HF.out⟩

def awO : List It := [⟨3, ⟨#[97]⟩, 0, ⟨#[]⟩, 3, ⟨#[]⟩, ⟨#[]⟩, 0, 0⟩, ⟨15, ⟨#[]⟩, 0, ⟨#[]⟩, 0, ⟨#[]⟩, ⟨#[]⟩, 0, 0⟩, ⟨9, ⟨#[]⟩, 0, ⟨#[]⟩, 0, ⟨#[115]⟩, ⟨#[]⟩, 0, 0⟩, ⟨16, ⟨#[]⟩, 0, ⟨#[]⟩, 0, ⟨#[]⟩, ⟨#[]⟩, 0, 0⟩]
theorem awO_text : formR awO = (⟨#[110, 111, 116, 32, 97, 32, 60, 32, 51, 32, 97, 110, 100, 32, 111, 112, 101, 110, 32, 115]⟩, 0) := by decide +kernel
theorem awO_short : ∀ x ∈ awO, Short x := by
  intro x hx
  simp only [awO, List.mem_cons, List.not_mem_nil, or_false] at hx
  rcases hx with rfl | rfl | rfl | rfl <;> exact ⟨by decide, by decide, by decide, by decide, by decide, by decide⟩
def awCells : Array Value := (awO.flatMap itCells).toArray
theorem awO_in (w : World) : ItIn (w.alloc (.cells awCells 39)) (.slice (some ⟨w.heap.size, 0, none⟩) 4 4) awO := by
  refine ⟨_, _, rfl, .inr ⟨_, _, rfl, by simp, fun k x hx j hj => ?_⟩⟩
  rw [World.cell?_alloc_at _ _ _ _ rfl]
  have hk := (List.getElem?_eq_some_iff.1 hx).1
  show awCells[0 + k * 9 + j]? = _
  rw [Nat.zero_add, show awCells[k * 9 + j]? = (awO.flatMap itCells)[k * 9 + j]? by simp [awCells]]
  exact itFlat_get awO k j x hx hj

set_option maxRecDepth 100000 in
set_option maxHeartbeats 4000000 in
theorem awake06 {w : World} (ht : Tabs w) :
    Calls Tryz.prog 6 #[] w fun e w' => e = .returned (.bool true) ∧ Below w.heap.size w w' := by
  have hb0 : Below w.heap.size w (w.alloc (.cells awCells 39)) := (Below.refl _ w).alloc (Nat.le_refl _) _
  have HB0 := Lib.hid hb0
  have HF := Lib.hid (formula_any (ht.keep hb0) (awO_in w) awO_short)
  rw [awO_text] at HF
  unfold awCells at HF HB0
  simp only [awO, itCells, List.flatMap_cons, List.flatMap_nil, List.cons_append, List.nil_append, List.append_nil] at HF HB0
  clear ht hb0
  go_enter Tryz.func6, Tryz.ntmps6
  go_wp2_with fail
  refine HF.out.mono ?_
  rintro e w1 ⟨rfl, hb1⟩
  have HB1 := Lib.hid (HB0.out.trans (hb1.mono HB0.out.size))
  clear hb1
  go_wp2
  go_ret
  exact ⟨rfl, HB1.out⟩

end Go.Proofs.YthhjepgcbfmfeaaGreatDoor
