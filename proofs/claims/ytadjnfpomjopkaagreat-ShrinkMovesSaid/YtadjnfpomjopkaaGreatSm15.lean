/- nest: in, Above; slices.Index, Contains of ints. -/
import Derived.Test.YtadjnfpomjopkaaGreatSm14
import Derived.ScopeJumps
import Derived.WalkMore

namespace Go.Proofs.YtadjnfpomjopkaaGreat
open Go.RowKit

theorem rowI_of {w : World} {base : Nat} {t : TypeId} {v : Value} {l : List Int} (h : w.ownsRow base t 1 v l.length (ints l)) : RowE intE 1 w v l := by
  rcases h.2 with ⟨rfl, h0⟩ | ⟨g, cap, cur, rfl, hb, hg, hn, hm, hs, ht⟩
  · have : l = [] := List.length_eq_zero_iff.1 h0
    subst this
    exact RowE.nil _ _ _
  · refine ⟨some ⟨g, 0, none⟩, cap, rfl, ⟨fun e => (by cases e), hn, hm⟩, .inr ⟨g, 0, rfl, (Array.getElem?_eq_some_iff.1 hg).1, fun i a hi => ⟨_, rfl, rfl, fun j u hu => ?_⟩⟩⟩
    have hj : j = 0 := by have := (List.getElem?_eq_some_iff.1 hu).1; simp at this; omega
    subst hj
    have hil := (List.getElem?_eq_some_iff.1 hi).1
    have hc := World.ownsRow.cellAt h i (by omega)
    rw [Nat.zero_add, Nat.mul_one, Nat.add_zero, hc]
    simp only [ints, List.getElem?_map, hi, Option.map_some]
    exact hu
def pairV (o : Option Int) : Value := match o with | some p => .tuple #[.int .i64 p, .bool true] | none => .tuple #[.int .i64 0, .bool false]
theorem inU_some {l : List Int} {k : Nat} {x : Int} (hx : l[k]? = some x) (h : 0 ≤ x ∧ x < (l.length : Int)) : inU l (k : Int) = some x := by
  have hk := (List.getElem?_eq_some_iff.1 hx).1
  have ha : atL l (k : Int) = x := by unfold atL; rw [Int.toNat_natCast, List.getD_eq_getElem?_getD, hx]; rfl
  unfold inU
  rw [if_pos (inL_iff.2 ⟨by omega, by omega⟩), ha, if_pos (inL_iff.2 h)]
theorem inU_no {l : List Int} {i : Int} (h : ¬ (0 ≤ i ∧ i < (l.length : Int))) : inU l i = none := by
  unfold inU; rw [if_neg (by rw [inL_iff]; exact h)]
theorem inU_no2 {l : List Int} {k : Nat} {x : Int} (hx : l[k]? = some x) (h : ¬ (0 ≤ x ∧ x < (l.length : Int))) : inU l (k : Int) = none := by
  have hk := (List.getElem?_eq_some_iff.1 hx).1
  have ha : atL l (k : Int) = x := by unfold atL; rw [Int.toNat_natCast, List.getD_eq_getElem?_getD, hx]; rfl
  unfold inU
  rw [if_pos (inL_iff.2 ⟨by omega, by omega⟩), ha, if_neg (by rw [inL_iff]; exact h)]
set_option maxHeartbeats 1000000 in
theorem nin_any {w : World} {v : Value} {l : List Int} (h : RowE intE 1 w v l) (i : Int) :
    Calls Tryz.prog 117 #[v, .int .i64 i] w fun e w' => e = .returned (pairV (inU l i)) ∧ w = w' := by
  obtain ⟨ad, cap, e0⟩ := h.len
  subst e0
  rcases (show i < 0 ∨ (l.length : Int) ≤ i ∨ (0 ≤ i ∧ i < (l.length : Int)) by omega) with q | q | q
  · rw [inU_no (by omega)]
    unfold pairV
    clear h
    go_enter Tryz.func117, Tryz.ntmps117
    go_wp2
    go_ret2
    exact ⟨rfl, rfl⟩
  · rw [inU_no (by omega)]
    unfold pairV
    have hn : ¬ i < 0 := by omega
    clear h
    go_enter Tryz.func117, Tryz.ntmps117
    go_wp2
    go_ret2
    exact ⟨rfl, rfl⟩
  · obtain ⟨k, rfl⟩ : ∃ k : Nat, i = (k : Int) := ⟨i.toNat, by omega⟩
    obtain ⟨x, hx⟩ : ∃ x, l[k]? = some x := ⟨_, List.getElem?_eq_getElem (by omega)⟩
    have hE : (¬ (0 ≤ x ∧ x < (l.length : Int)) → inU l (k : Int) = none) ∧ ((0 ≤ x ∧ x < (l.length : Int)) → inU l (k : Int) = some x) := ⟨inU_no2 hx, inU_some hx⟩
    have HE := Lib.hid hE
    obtain ⟨b, off, c, hv, hbl, hc⟩ := h.int hx
    simp only [Value.slice.injEq, true_and] at hv
    obtain ⟨rfl, rfl⟩ := hv
    have hq0 := q.1
    have hq1 := q.2
    have hn : ¬ (k : Int) < 0 := by omega
    have hn2 : ¬ (l.length : Int) ≤ (k : Int) := by omega
    clear h q hE hx
    rcases (show x < 0 ∨ (0 ≤ x ∧ (l.length : Int) ≤ x) ∨ (0 ≤ x ∧ x < (l.length : Int)) by omega) with p | p | p
    · rw [HE.out.1 (by omega)]
      unfold pairV
      go_enter Tryz.func117, Tryz.ntmps117
      go_wp2
      go_ret2
      exact ⟨rfl, rfl⟩
    · rw [HE.out.1 (by omega)]
      unfold pairV
      have p1 : ¬ x < 0 := by omega
      have p2 := p.2
      clear p
      go_enter Tryz.func117, Tryz.ntmps117
      go_wp2
      go_ret2
      exact ⟨rfl, rfl⟩
    · rw [HE.out.2 p]
      unfold pairV
      have p1 : ¬ x < 0 := by omega
      have p2 : ¬ (l.length : Int) ≤ x := by omega
      clear p
      go_enter Tryz.func117, Tryz.ntmps117
      go_wp2
      go_ret2
      exact ⟨rfl, rfl⟩
/-- where a number stands first; -1: nowhere -/
def idxL (x : Int) : List Int → Nat → Int
  | [], _ => -1
  | a :: l, k => if a = x then (k : Int) else idxL x l (k + 1)
theorem idxL_mem (x : Int) : ∀ (l : List Int) (k : Nat), (0 ≤ idxL x l k) ↔ x ∈ l
  | [], k => by simp [idxL]
  | a :: l, k => by
    rw [idxL]
    split
    · rename_i h; subst h; simp
    · rename_i h
      rw [idxL_mem x l (k + 1)]
      simp [Ne.symm h]
theorem idxL_drop {x : Int} {l : List Int} {k : Nat} {a : Int} (h : l[k]? = some a) : idxL x (l.drop k) k = if a = x then (k : Int) else idxL x (l.drop (k + 1)) (k + 1) := by
  have hk := (List.getElem?_eq_some_iff.1 h).1
  rw [List.drop_eq_getElem_cons hk, idxL]
  rw [List.getElem?_eq_getElem hk] at h
  rw [Option.some.inj h]
set_option maxHeartbeats 1000000 in
theorem index_any {w : World} {v : Value} {l : List Int} (h : RowE intE 1 w v l) (x : Int) :
    Calls Tryz.prog 116 #[v, .int .i64 x] w fun e w' => e = .returned (.int .i64 (idxL x l 0)) ∧ w = w' := by
  have hmx := h.max
  obtain ⟨ad, cap, e0⟩ := h.len
  subst e0
  have HI := Lib.hid h
  obtain ⟨R, hR⟩ : ∃ R, idxL x l 0 = R := ⟨_, rfl⟩
  have HR := Lib.hid hR
  rw [hR]
  clear h hR
  go_enter Tryz.func116, Tryz.ntmps116
  go_wp2
  go_loopw [5, 8] (fun _ i wr => ∃ k : Nat, i = .int .i64 (k : Int) ∧ k ≤ l.length ∧ Hid (idxL x (l.drop k) k = R) ∧ w = wr) (fun _ i _ => l.length - (intOf i).toNat)
  case atStart => exact ⟨0, rfl, Nat.zero_le _, HR, rfl⟩
  case round =>
    obtain ⟨k, rfl, hk, HK, rfl⟩ := hrel
    rcases Nat.lt_or_ge k l.length with hlt | hge
    · obtain ⟨a, ha⟩ : ∃ x, l[k]? = some x := ⟨_, List.getElem?_eq_getElem hlt⟩
      have hkz := ltI hlt
      have hD := HK.out
      rw [idxL_drop ha] at hD
      obtain ⟨b, off, c, hv, hbl, hc⟩ := HI.out.int ha
      simp only [Value.slice.injEq, true_and] at hv
      obtain ⟨rfl, rfl⟩ := hv
      by_cases hax : a = x
      · rw [if_pos hax] at hD
        have HD := Lib.hid hD
        have hb : (x == a) = true := by simp [hax]
        clear hD hax ha
        go_wp2
        go_ret
        exact ⟨ret_int HD.out, rfl⟩
      · rw [if_neg hax] at hD
        have HD := Lib.hid hD
        have hb : (x == a) = false := by rw [beq_eq_false_iff_ne]; exact fun e => hax e.symm
        clear hD hax ha
        go_wp2
        go_roundw
        case rel => exact ⟨k + 1, by go_num, hlt, HD, trivial⟩
        case measure => simp [intOf]; omega
    · have HD : Hid (R = -1) := by have := HK.out; rw [List.drop_of_length_le hge] at this; exact this.symm
      have hge' := nltI (Nat.not_lt.2 hge)
      go_wp2
      go_ret
      exact ⟨ret_int HD.out.symm, rfl⟩
theorem contains_any {w : World} {v : Value} {l : List Int} (h : RowE intE 1 w v l) (x : Int) :
    Calls Tryz.prog 102 #[v, .int .i64 x] w fun e w' => e = .returned (.bool (decide (x ∈ l))) ∧ w = w' := by
  have HE : Hid (decide (0 ≤ idxL x l 0) = decide (x ∈ l)) := by unfold Hid; rw [decide_eq_decide]; exact idxL_mem x l 0
  have HC := Lib.hid (index_any h x)
  clear h
  go_enter Tryz.func102, Tryz.ntmps102
  go_wp2_with fail
  refine HC.out.mono ?_
  rintro e w2 ⟨rfl, rfl⟩
  go_wp2
  go_ret
  exact ⟨ret_bool HE.out, rfl⟩
/-- a scope in which the run jumps back to one label; the first pass is one of them -/
theorem wp_scope_label {P : Program} {a : Act} {w : World} {Q : Exit → Act → World → Prop} {c rest : Code} (l : Nat) (J : Act → World → Prop) (μ : Act → World → Nat) (hf : findLabel c l = some (Code.skip.seq rest))
    (pass : ∀ a w, J a w → rest.wp P (Exit.jump l (fun a' w' => J a' w' ∧ μ a' w' < μ a w) Q) a w)
    (first : (∀ a w, J a w → rest.wp P (Exit.jump l J Q) a w) → c.wp P (Exit.jump l J Q) a w) : (Code.scope c).wp P Q a w :=
  wp_scope_jumps l J μ hf (first fun a w h => Code.wp_mono (fun e a' w' hq => by cases e <;> first | exact hq | exact ⟨hq.1, hq.2.1⟩) (pass a w h)) (fun a w h => wp_seq (wp_skip (pass a w h)))
def lenOf : Value → Nat
  | .slice _ n _ => n
  | _ => 0
set_option maxRecDepth 100000 in
set_option maxHeartbeats 2000000 in
theorem above_any {w : World} {v : Value} {l : List Int} (h : RowE intE 1 w v l) (hl : l.length ≤ 1000) (i : Int) :
    Calls Tryz.prog 103 #[v, .int .i64 i] w fun e w' => ∃ v' A, e = .returned v' ∧ w'.ownsRow w.heap.size 3 1 v' A.length (ints A) ∧ A.length ≤ l.length ∧ (∀ st, 0 ≤ st → i ≠ st → (st ∈ A ↔ isUp l st i = true)) ∧ Below w.heap.size w w' := by
  obtain ⟨ad, cap, e0⟩ := h.len
  subst e0
  have HI := Lib.hid h
  clear h
  go_enter Tryz.func103, Tryz.ntmps103
  go_wp2
  refine wp_scope_label 0 (fun a' w' => ∃ (vo : Value) (x : Int) (A : List Int) (u7 u8 u10 u11 u12 u13 u14 u15 u16 u17 u18 u19 u20 u21 u22 u23 u24 u25 u26 u27 u28 u29 u30 u31 u32 u33 : Value), a' = { tmps := #[.slice ad l.length cap, .int .i64 i, undef, undef, .slice none 0 0, vo, .int .i64 x, u7, u8, .int .i64 i, u10, u11, u12, u13, u14, u15, u16, u17, u18, u19, u20, u21, u22, u23, u24, u25, u26, u27, u28, u29, u30, u31, u32, u33], defers := [] } ∧ Hid (w'.ownsRow w.heap.size 3 1 vo A.length (ints A) ∧ AbvI l i A x ∧ Below w.heap.size w w')) (fun a' _ => l.length + 1 - lenOf (a'.tmps.getD 5 undef)) rfl ?_ ?_
  · rintro a' w' ⟨vo, x, A, u7, u8, u10, u11, u12, u13, u14, u15, u16, u17, u18, u19, u20, u21, u22, u23, u24, u25, u26, u27, u28, u29, u30, u31, u32, u33, rfl, HJ⟩
    obtain ⟨ad2, cap2, e2⟩ := owns_len HJ.out.1
    subst e2
    have hAl := HJ.out.2.1.len
    have hrow : RowE intE 1 w' (.slice ad2 A.length cap2) A := rowI_of HJ.out.1
    have HIN := Lib.hid (nin_any (HI.out.below intE_keep HJ.out.2.2) x)
    have HBS := Lib.hid HJ.out.2.2.size
    cases hp : inU l x with
    | none =>
      rw [hp] at HIN
      unfold pairV at HIN
      have HEND := Lib.hid (HJ.out.2.1.is (.inl hp))
      clear hp
      go_wp2_with fail
      refine HIN.out.mono ?_
      rintro e w2 ⟨rfl, rfl⟩
      go_wp2
      simp only [Exit.jump]
      go_ret
      exact ⟨_, A, rfl, HJ.out.1, hAl, HEND.out, HJ.out.2.2⟩
    | some p =>
      rw [hp] at HIN
      unfold pairV at HIN
      by_cases hpi : p = i
      · have HEND := Lib.hid (HJ.out.2.1.is (.inr ⟨p, hp, .inl hpi⟩))
        have hb : (p == i) = true := by simp [hpi]
        clear hp hpi
        go_wp2_with fail
        refine HIN.out.mono ?_
        rintro e w2 ⟨rfl, rfl⟩
        go_wp2
        simp only [Exit.jump]
        go_ret
        exact ⟨_, A, rfl, HJ.out.1, hAl, HEND.out, HJ.out.2.2⟩
      · have hb : (p == i) = false := by rw [beq_eq_false_iff_ne]; exact hpi
        have HCN := Lib.hid (contains_any hrow p)
        by_cases hm : p ∈ A
        · have HEND := Lib.hid (HJ.out.2.1.is (.inr ⟨p, hp, .inr hm⟩))
          rw [decide_eq_true hm] at HCN
          clear hp hpi hm
          go_wp2_with fail
          refine HIN.out.mono ?_
          rintro e w2 ⟨rfl, rfl⟩
          go_wp2_with fail
          refine HCN.out.mono ?_
          rintro e w2 ⟨rfl, rfl⟩
          go_wp2
          simp only [Exit.jump]
          go_ret
          exact ⟨_, A, rfl, HJ.out.1, hAl, HEND.out, HJ.out.2.2⟩
        · have HST := Lib.hid (HJ.out.2.1.step hp hpi hm)
          rw [decide_eq_false hm] at HCN
          have hAn := HST.out.len
          rw [List.length_append, List.length_singleton] at hAn
          clear hp hpi hm hrow
          go_wp2_with fail
          refine HIN.out.mono ?_
          rintro e w2 ⟨rfl, rfl⟩
          go_wp2_with fail
          refine HCN.out.mono ?_
          rintro e w2 ⟨rfl, rfl⟩
          go_wp2_with (first
            | (at_builtin; refine app1 _ #[.int .i64 p] rfl _ _ 42 rfl w.heap.size 3 (.int .i64 0) 1 8 Tryz.underlying42 info_int rfl (by decide) (by decide) _ _ _ rfl (by exact HJ.out.1) rfl (by simp) rfl (by simp [Value.oneCell']) (by omega) HBS.out ?_; intro v3 w3 hown3 _ hbel
               obtain ⟨ad3, cap3, e3⟩ := owns_len hown3
               subst e3
               have HO3 := Lib.hid hown3
               have HB3 := Lib.hid (HJ.out.2.2.trans hbel)
               clear hown3 hbel)
            | fail)
          go_step3
          refine ⟨rfl, ⟨_, p, A ++ [p], _, _, _, _, _, _, _, _, _, _, _, _, _, _, _, _, _, _, _, _, _, _, _, _, _, _, rfl, ?_, HST.out, HB3.out⟩, ?_⟩
          · have := HO3.out
            rw [List.length_append, List.length_singleton, show ints (A ++ [p]) = ints A ++ [.int .i64 p] by simp [ints]]
            exact this
          · show l.length + 1 - (A.length + 1) < l.length + 1 - A.length
            omega
  · intro hpass
    go_wp2
    go_step3
    rename_i K aK
    exact aK _ _ (hpass _ _ ⟨_, _, [], _, _, _, _, _, _, _, _, _, _, _, _, _, _, _, _, _, _, _, _, _, _, _, _, _, _, rfl, World.ownsRow_nil _ _ _ _, AbvI.start _ _, Below.refl _ _⟩)

theorem belowN_mem {l : List Int} {st : Int} {k : Nat} {A : List Int} (hA : ∀ s, 0 ≤ s → (k : Int) ≠ s → (s ∈ A ↔ isUp l s k = true)) (hst : 0 ≤ st) (hne : (k : Int) ≠ st) : decide (st ∈ A) = isUp l st k := by
  have := hA st hst hne
  cases e : isUp l st k
  · rw [e] at this; exact decide_eq_false (fun h => by have := this.1 h; cases this)
  · rw [e] at this; exact decide_eq_true (this.2 rfl)
set_option maxRecDepth 100000 in
set_option maxHeartbeats 2000000 in
theorem below_any {w : World} {v : Value} {l : List Int} (h : RowE intE 1 w v l) (hl : l.length ≤ 1000) (st : Nat) (hst : st < l.length) :
    Calls Tryz.prog 88 #[v, .int .i64 st] w fun e w' => ∃ v', e = .returned v' ∧ w'.ownsRow w.heap.size 3 1 v' (belowN l st l.length).length (ints (belowN l st l.length)) ∧ Below w.heap.size w w' := by
  obtain ⟨ad, cap, e0⟩ := h.len
  subst e0
  have HI := Lib.hid h
  have hsz := ltI hst
  have hs0 : ¬ (st : Int) < 0 := by omega
  have hs1 : ¬ (l.length : Int) ≤ (st : Int) := by omega
  clear h
  go_enter Tryz.func88, Tryz.ntmps88
  go_wp2
  go_loopw [5, 6, 18] (fun vo _ i wr => ∃ k : Nat, i = .int .i64 (k : Int) ∧ k ≤ l.length ∧ Hid (wr.ownsRow w.heap.size 3 1 vo (belowN l st k).length (ints (belowN l st k)) ∧ Below w.heap.size w wr)) (fun _ _ i _ => l.length - (intOf i).toNat)
  case atStart => exact ⟨0, rfl, Nat.zero_le _, World.ownsRow_nil _ _ _ _, Below.refl _ _⟩
  case round =>
    obtain ⟨k, rfl, hk, HALL⟩ := hrel
    obtain ⟨ad2, cap2, e2⟩ := owns_len HALL.out.1
    subst e2
    have hbl := belowN_len l st k
    obtain ⟨n, hn⟩ : ∃ n, (belowN l st k).length = n := ⟨_, rfl⟩
    rw [hn] at HALL hbl ⊢
    rcases Nat.lt_or_ge k l.length with hlt | hge
    · have hkz := ltI hlt
      have HS := Lib.hid HALL.out.2.size
      have HN := Lib.hid hn
      by_cases hks : k = st
      · have hb : ((k : Int) != (st : Int)) = false := by simp [hks]
        have HM : Hid (belowN l st (k + 1) = belowN l st k) := belowN_miss l st k (by rw [decide_eq_false (by simp; omega)]; rfl)
        clear hks hn
        go_wp2
        go_roundw
        case rel => exact ⟨k + 1, by go_num, hlt, by rw [HM.out, HN.out]; exact HALL.out.1, HALL.out.2⟩
        case measure => simp [intOf]; omega
      · have hne : (k : Int) ≠ (st : Int) := by omega
        have hb : ((k : Int) != (st : Int)) = true := by simp; omega
        have HAB := Lib.hid (above_any (HI.out.below intE_keep HALL.out.2) hl (k : Int))
        have HNE := Lib.hid hne
        clear hks hne hn
        go_wp2_with fail
        refine HAB.out.mono ?_
        rintro e w2 ⟨v2, A, rfl, hown, hAl, hA, hb2⟩
        obtain ⟨ad4, cap4, e4⟩ := owns_len hown
        subst e4
        have HEQ := Lib.hid (belowN_mem hA (Int.natCast_nonneg st) HNE.out)
        have HCN := Lib.hid (contains_any (rowI_of hown) (st : Int))
        have HB2 := Lib.hid (HALL.out.2.trans (hb2.mono HS.out))
        have HO2 := Lib.hid (owns_below HALL.out.1 hb2)
        clear hown hA hb2
        cases hu : isUp l (st : Int) (k : Int)
        · rw [HEQ.out, hu] at HCN
          have HM : Hid (belowN l st (k + 1) = belowN l st k) := belowN_miss l st k (by rw [hu, Bool.and_false])
          clear hu
          go_wp2_with fail
          refine HCN.out.mono ?_
          rintro e w3 ⟨rfl, rfl⟩
          go_wp2
          go_roundw
          case rel => exact ⟨k + 1, by go_num, hlt, by rw [HM.out, HN.out]; exact HO2.out, HB2.out⟩
          case measure => simp [intOf]; omega
        · rw [HEQ.out, hu] at HCN
          have HM : Hid (belowN l st (k + 1) = belowN l st k ++ [(k : Int)]) := belowN_hit l st k (by rw [hu, decide_eq_true HNE.out]; rfl)
          clear hu
          go_wp2_with fail
          refine HCN.out.mono ?_
          rintro e w3 ⟨rfl, rfl⟩
          go_wp2_with (first
            | (at_builtin; refine app1 _ #[.int .i64 (k : Int)] rfl _ _ 42 rfl w.heap.size 3 (.int .i64 0) 1 8 Tryz.underlying42 info_int rfl (by decide) (by decide) _ _ _ rfl (by exact HO2.out) rfl (by simp) rfl (by simp [Value.oneCell']) (by omega) HB2.out.size ?_; intro v3 w3 hown3 _ hbel
               have HO3 := Lib.hid hown3
               have HB3 := Lib.hid (HB2.out.trans hbel)
               clear hown3 hbel)
            | fail)
          go_roundw
          case rel =>
            refine ⟨k + 1, by go_num, hlt, ?_, HB3.out⟩
            rw [HM.out, List.length_append, List.length_singleton, HN.out, show ints (belowN l st k ++ [(k : Int)]) = ints (belowN l st k) ++ [.int .i64 (k : Int)] by simp [ints]]
            exact HO3.out
          case measure => simp [intOf]; omega
    · have hkn : k = l.length := by omega
      subst hkn
      have hge' := nltI (Nat.not_lt.2 hge)
      have HN := Lib.hid hn
      clear hn
      go_wp2
      go_ret
      exact ⟨_, rfl, by rw [HN.out]; exact HALL.out.1, HALL.out.2⟩
set_option maxRecDepth 100000 in
set_option maxHeartbeats 2000000 in
theorem parentsQ {w : World} {q : Mem} {M : Mdl} (hm : MdQ w q M) (hl : M.stages.length ≤ 100000) :
    Calls Tryz.prog 89 #[.agg (mdC q M)] w fun e w' => ∃ v', e = .returned v' ∧ w'.ownsRow w.heap.size 3 1 v' (parL M).length (ints (parL M)) ∧ Below w.heap.size w w' := by
  obtain ⟨W, h1, HB, HM, HF⟩ := boxM hm
  unfold MdB at HF
  unfold mdC at h1 ⊢
  clear hm
  obtain ⟨-, -, -, -, c4, -, -, -, -, -⟩ := HF.out _ (Below.refl _ _)
  go_enter Tryz.func89, Tryz.ntmps89
  go_wp2
  go_loopw [3, 9] (fun vo i wr => ∃ k : Nat, i = .int .i64 (k : Int) ∧ k ≤ M.stages.length ∧ Hid (wr.ownsRow W.heap.size 3 1 vo k (ints ((parL M).take k)) ∧ Below W.heap.size W wr)) (fun _ i _ => M.stages.length - (intOf i).toNat)
  case atStart => exact ⟨0, rfl, Nat.zero_le _, World.ownsRow_nil _ _ _ _, Below.refl _ _⟩
  case round =>
    obtain ⟨k, rfl, hk, HALL⟩ := hrel
    obtain ⟨ad2, cap2, e2⟩ := owns_len HALL.out.1
    subst e2
    clear c4
    rcases Nat.lt_or_ge k M.stages.length with hlt | hge
    · have hkz := ltI hlt
      obtain ⟨x, b, off, hx, ha, ⟨a0, a1⟩, W3, h3, hb3, x3⟩ := stageBox (HM.out.below HALL.out.2).stages hlt
      have g1 := x3.cell (i := 1) rfl
      have HT : Hid (ints ((parL M).take (k + 1)) = ints ((parL M).take k) ++ [.int .i64 x.2]) := by
        unfold Hid parL
        rw [List.take_add_one, List.getElem?_map, hx]
        simp [ints]
      have HO3 := Lib.hid (owns_below HALL.out.1 hb3)
      have HB3 := Lib.hid (HALL.out.2.trans (hb3.mono HALL.out.2.size))
      clear hx hb3 x3
      go_wp2_with (first
        | (at_builtin; refine app1 _ #[.int .i64 x.2] rfl _ _ 42 rfl W.heap.size 3 (.int .i64 0) 1 8 Tryz.underlying42 info_int rfl (by decide) (by decide) _ _ _ rfl (by exact HO3.out) rfl (by simp) rfl (by simp [Value.oneCell']) (by omega) HB3.out.size ?_; intro v4 w4 hown4 _ hbel
           obtain ⟨ad4, cap4, e4⟩ := owns_len hown4
           subst e4
           have HO4 := Lib.hid hown4
           have HB4 := Lib.hid (HB3.out.trans hbel)
           clear hown4 hbel)
        | fail)
      (try rw [← ha])
      go_roundw
      case rel => refine ⟨_, _, _, ⟨k + 1, ?_, hlt, by rw [HT.out]; exact HO4.out, HB4.out⟩, rfl, rfl, rfl⟩; go_num
      case measure => simp [intOf]; omega
    · have hkn : k = M.stages.length := by omega
      subst hkn
      have hge' := nltI (Nat.not_lt.2 hge)
      go_wp2
      go_ret
      refine ⟨_, rfl, ?_, HB.out.trans (HALL.out.2.mono HB.out.size)⟩
      have := HALL.out.1
      rw [List.take_of_length_le (by simp [parL])] at this
      rw [show (parL M).length = M.stages.length by simp [parL]]
      exact owns_mono this HB.out.size
end Go.Proofs.YtadjnfpomjopkaaGreat
