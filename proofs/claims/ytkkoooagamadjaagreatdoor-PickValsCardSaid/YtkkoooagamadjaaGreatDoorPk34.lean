/- Points, merged: plain: what comes of points in order is the classes of all numbers. -/
import Derived.Test.YtkkoooagamadjaaGreatDoorPk33
import Derived.Test.YtkkoooagamadjaaGreatDoorPk26
import Derived.Test.YtkkoooagamadjaaGreatDoorPk14

namespace Go.Proofs.YtkkoooagamadjaaGreatDoor
open Go.RowKit

def PtOK (p : Pt) : Prop := 0 ≤ p.2.1 ∧ p.2.1 < 2147483648
theorem ofB_self {a : Int} (h0 : 0 ≤ a) (h1 : a < 2147483648) : ((ofB (hasN a) : Nat) : Int) = a := by
  rw [← lo_ofB]; unfold lo; omega
theorem or_ofB (f g : Nat → Bool) : bits .or .i64 ((ofB f : Nat) : Int) ((ofB g : Nat) : Int) = ((ofB fun j => f j || g j : Nat) : Int) := by
  rw [or_nat _ _ (ofB_lt f) (ofB_lt g)]
  refine congrArg (fun n : Nat => (n : Int)) (eq_ofB _ (Nat.or_lt_two_pow (n := 31) (ofB_lt f) (ofB_lt g)) _ fun j hj => ?_)
  rw [Nat.testBit_or, ofB_bit, ofB_bit]
  simp [hj]

/-- the attributes that have a number, and the constant that it is: of points -/
def attrsC (L : List Pt) (y : Int) : Int := (ofB fun j => L.any fun p => p.1 == y && hasN p.2.1 j : Nat)
def firstC (L : List Pt) (y : Int) : Int := match L.find? (fun p => p.1 == y) with
  | some p => p.2.2
  | none => 0
def outP (L : List Pt) : List Pt := (sortS (L.map (·.1))).map fun y => (y, attrsC L y, firstC L y)

theorem attrsC_other (L : List Pt) (p : Pt) (y : Int) (h : p.1 ≠ y) : attrsC (L ++ [p]) y = attrsC L y := by
  unfold attrsC
  refine congrArg (fun n : Nat => (n : Int)) (ofB_congr _ _ fun j _ => ?_)
  simp [h]
theorem firstC_other (L : List Pt) (p : Pt) (y : Int) (h : p.1 ≠ y) : firstC (L ++ [p]) y = firstC L y := by
  unfold firstC
  rw [List.find?_append]
  have e : [p].find? (fun q => q.1 == y) = none := by simp [h]
  rw [e, Option.or_none]
theorem firstC_old (L : List Pt) (p : Pt) (y : Int) (h : ∃ q ∈ L, q.1 = y) : firstC (L ++ [p]) y = firstC L y := by
  unfold firstC
  rw [List.find?_append]
  obtain ⟨q, hq, e⟩ := h
  cases hf : L.find? (fun q => q.1 == y) with
  | none => have := List.find?_eq_none.1 hf q hq; simp [e] at this
  | some r => rfl
theorem firstC_new (L : List Pt) (p : Pt) (h : ∀ q ∈ L, q.1 ≠ p.1) : firstC (L ++ [p]) p.1 = p.2.2 := by
  unfold firstC
  rw [List.find?_append]
  have e : L.find? (fun q => q.1 == p.1) = none := List.find?_eq_none.2 fun q hq => by simpa using h q hq
  rw [e]; simp
theorem attrsC_new (L : List Pt) (p : Pt) (h : ∀ q ∈ L, q.1 ≠ p.1) (hp : PtOK p) : attrsC (L ++ [p]) p.1 = p.2.1 := by
  unfold attrsC
  conv => rhs; rw [← ofB_self hp.1 hp.2]
  refine congrArg (fun n : Nat => (n : Int)) (ofB_congr _ _ fun j _ => ?_)
  rw [List.any_append]
  have e : (L.any fun q => q.1 == p.1 && hasN q.2.1 j) = false := List.any_eq_false.2 fun q hq => by simp [h q hq]
  rw [e]; simp
theorem attrsC_old (L : List Pt) (p : Pt) (hp : PtOK p) : attrsC (L ++ [p]) p.1 = bits .or .i64 (attrsC L p.1) p.2.1 := by
  unfold attrsC
  conv => rhs; rw [← ofB_self hp.1 hp.2]
  rw [or_ofB]
  refine congrArg (fun n : Nat => (n : Int)) (ofB_congr _ _ fun j _ => ?_)
  simp

theorem outP_new (L : List Pt) (p : Pt) (h : ∀ q ∈ L, q.1 < p.1) (hp : PtOK p) : outP (L ++ [p]) = outP L ++ [p] := by
  have hs : sortS ((L ++ [p]).map (·.1)) = sortS (L.map (·.1)) ++ [p.1] := by
    refine int_uniq (sortS_ok _).1 ?_ fun z => ?_
    · refine List.pairwise_append.2 ⟨(sortS_ok _).1, List.pairwise_singleton _ _, fun a ha b hb => ?_⟩
      rw [List.mem_singleton] at hb
      subst hb
      obtain ⟨q, hq, rfl⟩ := List.mem_map.1 (((sortS_ok _).2 a).1 ha)
      exact h q hq
    · rw [(sortS_ok _).2, List.map_append, List.mem_append, List.mem_append, (sortS_ok _).2]; simp
  have hne : ∀ q ∈ L, q.1 ≠ p.1 := fun q hq => by have := h q hq; omega
  unfold outP
  have e1 : ((sortS (L.map (·.1))).map fun y => ((y, attrsC (L ++ [p]) y, firstC (L ++ [p]) y) : Pt)) = (sortS (L.map (·.1))).map fun y => (y, attrsC L y, firstC L y) := by
    refine List.map_congr_left fun y hy => ?_
    obtain ⟨q, hq, rfl⟩ := List.mem_map.1 (((sortS_ok _).2 y).1 hy)
    rw [attrsC_other L p q.1 (hne q hq).symm, firstC_other L p q.1 (hne q hq).symm]
  rw [hs, List.map_append, e1, List.map_singleton, attrsC_new L p hne hp, firstC_new L p hne]
theorem outP_same (L : List Pt) (p : Pt) (hs : ∀ q ∈ L, q.1 ≤ p.1) (hm : ∃ q ∈ L, q.1 = p.1) (hp : PtOK p) :
    ∃ X a c, outP L = X ++ [(p.1, a, c)] ∧ outP (L ++ [p]) = X ++ [(p.1, bits .or .i64 a p.2.1, c)] := by
  have he : sortS ((L ++ [p]).map (·.1)) = sortS (L.map (·.1)) := sortS_eq fun z => by
    rw [List.map_append, List.mem_append]
    constructor
    · rintro (h | h)
      · exact h
      · simp only [List.map_cons, List.map_nil, List.mem_singleton] at h
        subst h
        obtain ⟨q, hq, e⟩ := hm
        exact List.mem_map.2 ⟨q, hq, e⟩
    · exact .inl
  obtain ⟨Y, hY⟩ : ∃ Y, sortS (L.map (·.1)) = Y ++ [p.1] := by
    have hmem : p.1 ∈ sortS (L.map (·.1)) := by
      rw [(sortS_ok _).2]
      obtain ⟨q, hq, e⟩ := hm
      exact List.mem_map.2 ⟨q, hq, e⟩
    rcases List.eq_nil_or_concat (sortS (L.map (·.1))) with h0 | ⟨Y, z, h0⟩
    · rw [h0] at hmem; cases hmem
    · refine ⟨Y, ?_⟩
      have hp1 := (sortS_ok (L.map (·.1))).1
      rw [h0, List.concat_eq_append] at hmem hp1 ⊢
      have hzm : z ∈ sortS (L.map (·.1)) := by rw [h0]; simp
      obtain ⟨q, hq, e⟩ := List.mem_map.1 (((sortS_ok _).2 z).1 hzm)
      have hz := hs q hq
      rcases List.mem_append.1 hmem with h1 | h1
      · have := (List.pairwise_append.1 hp1).2.2 _ h1 z (by simp)
        omega
      · rw [List.mem_singleton] at h1; rw [h1]
  have hpw := (sortS_ok (L.map (·.1))).1
  rw [hY] at hpw
  have hYn : ∀ y ∈ Y, p.1 ≠ y := fun y hy => by have := (List.pairwise_append.1 hpw).2.2 y hy p.1 (by simp); omega
  refine ⟨Y.map fun y => (y, attrsC L y, firstC L y), attrsC L p.1, firstC L p.1, ?_, ?_⟩
  · unfold outP; rw [hY, List.map_append]; rfl
  · unfold outP
    have e1 : (Y.map fun y => ((y, attrsC (L ++ [p]) y, firstC (L ++ [p]) y) : Pt)) = Y.map fun y => (y, attrsC L y, firstC L y) := by
      refine List.map_congr_left fun y hy => ?_
      rw [attrsC_other L p y (hYn y hy), firstC_other L p y (hYn y hy)]
    rw [he, hY, List.map_append, List.map_singleton, attrsC_old L p hp, firstC_old L p p.1 hm, e1]

/-- all points of numbers -/
def ptsC : List Int → Nat → List Pt
  | [], _ => []
  | c :: r, i => (c, 0, (i : Int)) :: ptsC r (i + 1)
def ptsV : List Int → Nat → List Pt
  | [], _ => []
  | v :: r, i => (v, bitZ (i : Int), -1) :: ptsV r (i + 1)
theorem ptsC_snoc : ∀ (l : List Int) (i : Nat) (c : Int), ptsC (l ++ [c]) i = ptsC l i ++ [(c, 0, ((i + l.length : Nat) : Int))]
  | [], i, c => by simp [ptsC]
  | d :: l, i, c => by
    simp only [List.cons_append, ptsC, ptsC_snoc l (i + 1) c, List.length_cons]
    rw [show i + 1 + l.length = i + (l.length + 1) by omega]
theorem ptsV_snoc : ∀ (l : List Int) (i : Nat) (c : Int), ptsV (l ++ [c]) i = ptsV l i ++ [(c, bitZ ((i + l.length : Nat) : Int), -1)]
  | [], i, c => by simp [ptsV]
  | d :: l, i, c => by
    simp only [List.cons_append, ptsV, ptsV_snoc l (i + 1) c, List.length_cons]
    rw [show i + 1 + l.length = i + (l.length + 1) by omega]
theorem ptsC_len : ∀ (l : List Int) (i : Nat), (ptsC l i).length = l.length
  | [], _ => rfl
  | c :: r, i => by simp [ptsC, ptsC_len r]
theorem ptsV_len : ∀ (l : List Int) (i : Nat), (ptsV l i).length = l.length
  | [], _ => rfl
  | c :: r, i => by simp [ptsV, ptsV_len r]
theorem ptsC_num : ∀ (l : List Int) (i : Nat), (ptsC l i).map (·.1) = l
  | [], _ => rfl
  | c :: r, i => by simp [ptsC, ptsC_num r]
theorem ptsV_num : ∀ (l : List Int) (i : Nat), (ptsV l i).map (·.1) = l
  | [], _ => rfl
  | c :: r, i => by simp [ptsV, ptsV_num r]
theorem ptsC_ok : ∀ (l : List Int) (i : Nat), ∀ p ∈ ptsC l i, p.2.1 = 0
  | [], _, p, h => by cases h
  | c :: r, i, p, h => by
    rcases List.mem_cons.1 h with rfl | h
    · rfl
    · exact ptsC_ok r (i + 1) p h
theorem ptsV_any (f : Int → Int → Bool) : ∀ (l : List Int) (i : Nat), (ptsV l i).any (fun p => f p.1 p.2.1) = true ↔ ∃ k, k < l.length ∧ f (l.getD k 0) (bitZ ((i + k : Nat) : Int)) = true
  | [], i => by simp [ptsV]
  | v :: r, i => by
    simp only [ptsV, List.any_cons, Bool.or_eq_true, ptsV_any f r (i + 1), List.length_cons]
    constructor
    · rintro (h | ⟨k, hk, h⟩)
      · exact ⟨0, by omega, by simpa using h⟩
      · refine ⟨k + 1, by omega, ?_⟩
        rw [show i + (k + 1) = i + 1 + k by omega]; simpa using h
    · rintro ⟨k, hk, h⟩
      cases k with
      | zero => exact .inl (by simpa using h)
      | succ k =>
        refine .inr ⟨k, by omega, ?_⟩
        rw [show i + (k + 1) = i + 1 + k by omega] at h; simpa using h
theorem bitZ_has (k j : Nat) (hj : j < 31) : hasN (bitZ (k : Int)) j = decide (j = k) := by
  unfold bitZ putZ
  rw [hasN_ofB _ _ hj]
  by_cases h : (j : Int) = (k : Int)
  · rw [if_pos h]; simp; omega
  · rw [if_neg h]
    have : ¬ j = k := by omega
    simp [this, hasN]
theorem bitZ_ok (k : Int) : 0 ≤ bitZ k ∧ bitZ k < 2147483648 := putZ_bd _ _ _

def allP (vals consts : List Int) : List Pt := ptsC (sortS consts) 0 ++ ptsV vals 0
theorem allP_ok (vals consts : List Int) : ∀ p ∈ allP vals consts, PtOK p := by
  intro p hp
  rcases List.mem_append.1 hp with h | h
  · have e := ptsC_ok _ _ p h
    exact ⟨by omega, by omega⟩
  · have H : ∀ (l : List Int) (i : Nat), ∀ p ∈ ptsV l i, PtOK p := by
      intro l
      induction l with
      | nil => intro i p h; cases h
      | cons v r ih =>
        intro i p h
        rcases List.mem_cons.1 h with rfl | h
        · exact bitZ_ok _
        · exact ih (i + 1) p h
    exact H _ _ p h
theorem attrs_all (vals consts : List Int) (y : Int) (hv : vals.length ≤ 31) : attrsC (allP vals consts) y = attrZ (pZ vals y) vals.length := by
  rw [attrZ_ofB _ _ hv]
  unfold attrsC allP
  refine congrArg (fun n : Nat => (n : Int)) (ofB_congr _ _ fun j hj => ?_)
  rw [List.any_append]
  have e : ((ptsC (sortS consts) 0).any fun p => p.1 == y && hasN p.2.1 j) = false := List.any_eq_false.2 fun p hp => by
    rw [ptsC_ok _ _ p hp]; simp [hasN]
  rw [e, Bool.false_or, Bool.eq_iff_iff, ptsV_any (fun a b => a == y && hasN b j)]
  simp only [Nat.zero_add, Bool.and_eq_true, beq_iff_eq, decide_eq_true_eq, pZ]
  constructor
  · rintro ⟨k, hk, h1, h2⟩
    rw [bitZ_has k j hj, decide_eq_true_eq] at h2
    subst h2
    exact ⟨hk, h1⟩
  · rintro ⟨h1, h2⟩
    exact ⟨j, h1, h2, by rw [bitZ_has j j hj]; simp⟩
theorem find_C (y : Int) : ∀ (l : List Int) (i : Nat), l.Pairwise (· < ·) → (ptsC l i).find? (fun p => p.1 == y) = if y ∈ l then some (y, 0, constZ l y l.length + i) else none
  | [], i, _ => by simp [ptsC]
  | c :: r, i, hs => by
    obtain ⟨h1, h2⟩ := List.pairwise_cons.1 hs
    have H : ∀ n, n ≤ r.length → constZ (c :: r) y (n + 1) = if constZ r y n = -1 then (if c = y then 0 else -1) else constZ r y n + 1 := by
      intro n
      induction n with
      | zero => intro _; simp [constZ]
      | succ n ih =>
        intro hn
        have e : (c :: r).getD (n + 1) 0 = r.getD n 0 := by simp
        have e1 : constZ (c :: r) y (n + 1 + 1) = if r.getD n 0 = y then ((n + 1 : Nat) : Int) else constZ (c :: r) y (n + 1) := by rw [← e]; rfl
        have e2 : constZ r y (n + 1) = if r.getD n 0 = y then ((n : Nat) : Int) else constZ r y n := rfl
        rw [e1, e2]
        by_cases h : r.getD n 0 = y
        · rw [if_pos h, if_pos h, if_neg (by omega)]; omega
        · rw [if_neg h, if_neg h]; exact ih (by omega)
    simp only [ptsC, List.find?_cons]
    by_cases hc : c = y
    · subst hc
      have hn : c ∉ r := fun h => by have := h1 c h; omega
      have e := H r.length (Nat.le_refl _)
      rw [if_pos ((const_mem r c).2 hn), if_pos rfl] at e
      simp [e]
    · have e := H r.length (Nat.le_refl _)
      simp only [hc, if_false] at e
      have hb : (c == y) = false := by simpa using hc
      rw [hb]
      simp only [find_C y r (i + 1) h2, List.mem_cons, List.length_cons, e]
      by_cases hy : y ∈ r
      · have hk : constZ r y r.length ≠ -1 := fun h => (const_mem r y).1 h hy
        rw [if_pos hy, if_pos (.inr hy), if_neg hk]
        congr 3
        omega
      · rw [if_neg hy, if_neg (by rintro (h | h); exact hc h.symm; exact hy h)]
theorem find_V (y : Int) : ∀ (l : List Int) (i : Nat), y ∈ l → ∃ p, (ptsV l i).find? (fun p => p.1 == y) = some p ∧ p.2.2 = -1
  | v :: r, i, h => by
    simp only [ptsV, List.find?_cons]
    by_cases hc : v = y
    · subst hc; exact ⟨_, by simp; rfl, rfl⟩
    · have hb : (v == y) = false := by simpa using hc
      rw [hb]
      rcases List.mem_cons.1 h with h | h
      · exact absurd h.symm hc
      · exact find_V y r (i + 1) h
theorem first_all (vals consts : List Int) (y : Int) (h : y ∈ vals ++ consts) : firstC (allP vals consts) y = constZ (sortS consts) y (sortS consts).length := by
  unfold firstC allP
  rw [List.find?_append, find_C y _ 0 (sortS_ok _).1]
  by_cases hy : y ∈ sortS consts
  · rw [if_pos hy]; simp
  · rw [if_neg hy, Option.none_or]
    have hv : y ∈ vals := by
      rcases List.mem_append.1 h with h | h
      · exact h
      · exact absurd (((sortS_ok _).2 y).2 h) hy
    obtain ⟨p, e, hp⟩ := find_V y vals 0 hv
    rw [e]
    show p.2.2 = _
    rw [hp, (const_mem _ _).2 hy]

/-- what comes of the points in order -/
theorem outP_all (vals consts : List Int) (hv : vals.length ≤ 31) {Q : List Pt} (h : SortK (fun p : Pt => p.1) (allP vals consts) Q) :
    outP Q = (sortS (vals ++ consts)).map fun y => (y, clsZ (pZ vals) vals.length (sortS consts) y) := by
  have hn : sortS (Q.map (·.1)) = sortS (vals ++ consts) := sortS_eq fun z => by
    rw [(h.perm.map (·.1)).mem_iff]
    unfold allP
    rw [List.map_append, ptsC_num, ptsV_num, List.mem_append, List.mem_append, (sortS_ok _).2]
    exact or_comm
  unfold outP
  rw [hn]
  refine List.map_congr_left fun y hy => ?_
  have h1 : attrsC Q y = attrsC (allP vals consts) y := by
    unfold attrsC
    refine congrArg (fun n : Nat => (n : Int)) (ofB_congr _ _ fun j _ => ?_)
    rw [Bool.eq_iff_iff, List.any_eq_true, List.any_eq_true]
    exact ⟨fun ⟨p, hp, e⟩ => ⟨p, h.perm.mem_iff.1 hp, e⟩, fun ⟨p, hp, e⟩ => ⟨p, h.perm.mem_iff.2 hp, e⟩⟩
  have h2 : firstC Q y = firstC (allP vals consts) y := by
    unfold firstC
    rw [← List.head?_filter, ← List.head?_filter, h.keep y]
  rw [h1, h2, attrs_all vals consts y hv, first_all vals consts y (((sortS_ok _).2 y).1 hy)]
  rfl

end Go.Proofs.YtkkoooagamadjaaGreatDoor
