/- A zone of numbers may be: plain. -/
import Derived.Test.YtkkoooagamadjaaGreatDoorWo36

namespace Go.Proofs.YtkkoooagamadjaaGreatDoor
open Go.RowKit

theorem constZ_at (C : List Int) (i : Nat) (y : Int) (hs : C.Pairwise (· < ·)) (h : C[i]? = some y) : ∀ n, i < n → n ≤ C.length → constZ C y n = (i : Int)
  | 0, h0, _ => by omega
  | n + 1, h0, h1 => by
    obtain ⟨hi, hy⟩ := List.getElem?_eq_some_iff.1 h
    rw [constZ]
    by_cases hc : C.getD n 0 = y
    · rw [if_pos hc]
      have hn : n < C.length := by omega
      have hg : C[n] = y := by rw [← hc, List.getD_eq_getElem?_getD, List.getElem?_eq_getElem hn]; rfl
      by_cases hin : i < n
      · have := List.pairwise_iff_getElem.1 hs i n hi hn hin; omega
      · have : i = n := by omega
        rw [this]
    · rw [if_neg hc]
      have : i ≠ n := by rintro rfl; exact hc (by rw [List.getD_eq_getElem?_getD, h]; rfl)
      exact constZ_at C i y hs h n (by omega) (by omega)

theorem constZ_bd' (C : List Int) (x : Int) : ∀ n, -1 ≤ constZ C x n
  | 0 => by simp [constZ]
  | k + 1 => by
    rw [constZ]
    have := constZ_bd' C x k
    split <;> omega
theorem gapsZ_bd' (c : Int) (hc : 0 ≤ c) : ∀ (l : List Int), ∀ g ∈ gapsZ c l, 0 ≤ g ∧ g ≤ c
  | [], g, h => by simp [gapsZ] at h
  | [_], g, h => by simp [gapsZ] at h
  | x :: y :: l, g, h => by
    rcases List.mem_cons.1 h with rfl | h
    · unfold gapZ; omega
    · exact gapsZ_bd' c hc (y :: l) g h

section
variable (vals : List Int) (C : List Int)
def clsF' (y : Int) : Int × Int := clsZ (pZ vals) vals.length C y

theorem nx_map : ∀ (l : List Int), nxA (l.map (clsF' vals C)) = (l.filter fun y => decide (y ∈ C)).length := by
  have H : ∀ (l : List Int) (s : Nat), (l.map (clsF' vals C)).foldl (fun s c => if c.2 = -1 then s else s + 1) s = s + (l.filter fun y => decide (y ∈ C)).length := by
    intro l
    induction l with
    | nil => intro s; simp
    | cons y l ih =>
      intro s
      have e : (clsF' vals C y).2 = -1 ↔ y ∉ C := const_mem C y
      simp only [List.map_cons, List.foldl_cons, List.filter_cons]
      by_cases h : y ∈ C
      · have h1 : ¬ (clsF' vals C y).2 = -1 := fun h2 => (e.1 h2) h
        rw [if_neg h1, ih]; simp [h]; omega
      · have h1 := e.2 h
        rw [if_pos h1, ih]; simp [h]
  intro l
  have := H l 0
  unfold nxA
  omega

theorem or_map (hv : vals.length ≤ 31) : ∀ (l : List Int), orA (l.map (clsF' vals C)) = ((ofB fun j => decide (j < vals.length) && l.any fun y => pZ vals y j : Nat) : Int) := by
  have H : ∀ (l : List Int) (g : Nat → Bool), (l.map (clsF' vals C)).foldl (fun s c => bits .or .i64 s c.1) ((ofB g : Nat) : Int) = ((ofB fun j => g j || (decide (j < vals.length) && l.any fun y => pZ vals y j) : Nat) : Int) := by
    intro l
    induction l with
    | nil => intro g; simp
    | cons y l ih =>
      intro g
      have e : (clsF' vals C y).1 = ((ofB fun j => decide (j < vals.length) && pZ vals y j : Nat) : Int) := attrZ_ofB (pZ vals y) vals.length hv
      simp only [List.map_cons, List.foldl_cons]
      rw [e, or_ofB, ih]
      refine congrArg (fun n : Nat => (n : Int)) (ofB_congr _ _ fun j _ => ?_)
      simp only [List.any_cons]
      cases g j <;> cases decide (j < vals.length) <;> cases pZ vals y j <;> rfl
  intro l
  have := H l (fun _ => false)
  have h0 : ofB (fun _ => false) = 0 := (ofB_zero _).2 fun _ _ => rfl
  rw [h0] at this
  unfold orA
  simpa using this

theorem and_ofB0 (f g : Nat → Bool) (h : ∀ j, j < 31 → (f j && g j) = false) : bits .and .i64 ((ofB f : Nat) : Int) ((ofB g : Nat) : Int) = 0 := by
  have h1 := ofB_lt f; have h2 := ofB_lt g
  rw [and_nat _ _ (by omega)]
  have e : ((((ofB f : Nat) : Int) % 18446744073709551616).toNat) = ofB f := by omega
  rw [e]
  have : ofB f &&& ofB g = 0 := by
    refine Nat.eq_of_testBit_eq fun j => ?_
    rw [Nat.testBit_and, ofB_bit, ofB_bit, Nat.zero_testBit]
    by_cases hj : j < 31
    · have := h j hj
      simp only [hj, decide_true, Bool.true_and]; exact this
    · simp [hj]
  rw [this]; rfl

theorem fix_map (L : List Int) : ∀ k, k ≤ L.length →
    (fixL (L.map (clsF' vals C)) k).map (fun p => L.getD p.toNat 0) = (L.take k).filter (fun y => decide (y ∈ C)) ∧ (∀ p ∈ fixL (L.map (clsF' vals C)) k, 0 ≤ p ∧ p < (k : Int)) ∧ (fixL (L.map (clsF' vals C)) k).Pairwise (· < ·)
  | 0, _ => by simp [fixL]
  | k + 1, hk => by
    obtain ⟨h1, h2, h3⟩ := fix_map L k (by omega)
    have hlt : k < L.length := by omega
    have e : ((L.map (clsF' vals C)).getD k (0, -1)) = clsF' vals C L[k] := by
      rw [List.getD_eq_getElem?_getD, List.getElem?_map, List.getElem?_eq_getElem hlt]; rfl
    have ec : 0 ≤ (clsF' vals C L[k]).2 ↔ L[k] ∈ C := by
      have h4 : (clsF' vals C L[k]).2 = -1 ↔ L[k] ∉ C := const_mem C L[k]
      have h5 := constZ_bd' C L[k] C.length
      have h6 : (clsF' vals C L[k]).2 = constZ C L[k] C.length := rfl
      by_cases h : L[k] ∈ C
      · have : ¬ (clsF' vals C L[k]).2 = -1 := fun h7 => h4.1 h7 h
        exact ⟨fun _ => h, fun _ => by omega⟩
      · have := h4.2 h
        exact ⟨fun _ => by omega, fun h8 => absurd h8 h⟩
    rw [fixL, e, List.take_succ_eq_append_getElem hlt, List.filter_append]
    by_cases h : L[k] ∈ C
    · rw [if_pos (ec.2 h)]
      refine ⟨?_, ?_, ?_⟩
      · rw [List.map_append, h1]
        simp [h, List.getD_eq_getElem?_getD, List.getElem?_eq_getElem hlt]
      · intro p hp
        rcases List.mem_append.1 hp with hp | hp
        · have := h2 p hp; omega
        · rw [List.mem_singleton] at hp; omega
      · refine List.pairwise_append.2 ⟨h3, List.pairwise_singleton _ _, fun a ha b hb => ?_⟩
        rw [List.mem_singleton] at hb
        have := h2 a ha; omega
    · rw [if_neg (fun h7 => h (ec.1 h7))]
      refine ⟨?_, fun p hp => by have := h2 p hp; omega, h3⟩
      rw [h1]; simp [h]
end

/-- what lies between two numbers of a zone fits -/
theorem fits_of (L : List Int) (hL : L.Pairwise (· < ·)) (cap : Nat) (p q : Nat) (a b : Int) (hpq : p < q) (ha : L[p]? = some a) (hb : L[q]? = some b) : fitsB (gapsZ cap L) p q cap a b = true := by
  have H : ∀ k y, p + k ≤ q → L[p + k]? = some y → 0 ≤ (cutP (gapsZ cap L) p k).sum ∧ (k : Int) + (cutP (gapsZ cap L) p k).sum ≤ y - a ∧ ((cutP (gapsZ cap L) p k).any (fun g => g == (cap : Int)) = false → (k : Int) + (cutP (gapsZ cap L) p k).sum = y - a) := by
    intro k
    induction k with
    | zero =>
      intro y _ hy
      rw [Nat.add_zero, ha] at hy
      cases hy
      simp [cutP]
    | succ k ih =>
      intro y hk hy
      obtain ⟨hi, hye⟩ := List.getElem?_eq_some_iff.1 hy
      have hlt : p + k < L.length := by omega
      obtain ⟨x, hx⟩ : ∃ x, L[p + k]? = some x := ⟨_, List.getElem?_eq_getElem hlt⟩
      have hxe := (List.getElem?_eq_some_iff.1 hx).2
      have hxy : x < y := by
        have := List.pairwise_iff_getElem.1 hL (p + k) (p + (k + 1)) hlt hi (by omega)
        omega
      obtain ⟨i0, i1, i2⟩ := ih x (by omega) hx
      have hg := gapsZ_at (cap : Int) L (p + k) x y hx (by rw [show p + k + 1 = p + (k + 1) by omega]; exact hy)
      rw [cutP_succ _ _ _ _ hg, List.sum_append, List.any_append, Bool.or_eq_false_iff]
      have e1 : [gapZ x y (cap : Int)].sum = gapZ x y cap := by simp
      have e2 : ([gapZ x y (cap : Int)].any fun g => g == (cap : Int)) = (gapZ x y cap == (cap : Int)) := by simp
      rw [e1, e2]
      have hgz : gapZ x y cap = min (cap : Int) (y - x - 1) := by unfold gapZ; omega
      refine ⟨by omega, by omega, fun ⟨j1, j2⟩ => ?_⟩
      have := i2 j1
      have j3 : gapZ x y cap ≠ (cap : Int) := by simpa using j2
      omega
  obtain ⟨D, hD⟩ : ∃ D, q - p = D := ⟨_, rfl⟩
  obtain ⟨h0, h1, h2⟩ := H D b (by omega) (by rw [show p + D = q by omega]; exact hb)
  unfold fitsB sumP
  rw [hD]
  generalize (cutP (gapsZ cap L) p D).sum = S at *
  rw [show (q : Int) - p - 1 = (D : Int) - 1 by omega]
  cases hw : (cutP (gapsZ cap L) p D).any (fun g => g == (cap : Int)) with
  | false =>
    have := h2 hw
    have e : gapZ a b ((D : Int) - 1 + S + 1) = (D : Int) - 1 + S := by unfold gapZ; omega
    rw [e]; simp
  | true =>
    by_cases e : gapZ a b ((D : Int) - 1 + S + 1) = (D : Int) - 1 + S
    · rw [e]; simp
    · have : (D : Int) - 1 + S < gapZ a b ((D : Int) - 1 + S + 1) := by unfold gapZ at e ⊢; omega
      simp [this]

theorem ofZ_chk (vals consts : List Int) (r : Int) (hv : vals.length ≤ 31) : ChkOK (ofZ vals consts r).1 (ofZ vals consts r).2 vals.length (sortS consts) (kap r) := by
  obtain ⟨hC, hCm⟩ := sortS_ok consts
  obtain ⟨hL, hLm⟩ := sortS_ok (vals ++ consts)
  have e1 : (ofZ vals consts r).1 = (sortS (vals ++ consts)).map (clsF' vals (sortS consts)) := rfl
  have e2 : (ofZ vals consts r).2 = gapsZ (kap r) (sortS (vals ++ consts)) := rfl
  rw [e1, e2]
  have hsub : ∀ z, z ∈ sortS consts → z ∈ sortS (vals ++ consts) := fun z hz => (hLm z).2 (List.mem_append_right _ ((hCm z).1 hz))
  have hval : ∀ j, j < vals.length → vals.getD j 0 ∈ sortS (vals ++ consts) := fun j hj => (hLm _).2 (List.mem_append_left _ (by rw [List.getD_eq_getElem?_getD, List.getElem?_eq_getElem hj]; exact List.getElem_mem _))
  have hor : ∀ y, y ∈ sortS (vals ++ consts) → y ∈ sortS consts ∨ ∃ j, j < vals.length ∧ vals.getD j 0 = y := fun y hy => by
    rcases List.mem_append.1 ((hLm y).1 hy) with h | h
    · obtain ⟨j, hj, e⟩ := List.getElem_of_mem h
      exact .inr ⟨j, hj, by rw [List.getD_eq_getElem?_getD, List.getElem?_eq_getElem hj]; exact e⟩
    · exact .inl ((hCm y).2 h)
  generalize sortS (vals ++ consts) = L at *
  generalize sortS consts = C at *
  have hflt : L.filter (fun y => decide (y ∈ C)) = C := by
    refine int_uniq (hL.filter _) hC fun z => ?_
    rw [List.mem_filter, decide_eq_true_eq]
    exact ⟨fun h => h.2, fun h => ⟨hsub z h, h⟩⟩
  have hfix := fix_map vals C L L.length (Nat.le_refl _)
  rw [List.take_length, hflt] at hfix
  obtain ⟨f1, f2, f3⟩ := hfix
  have hlen : (L.map (clsF' vals C)).length = L.length := List.length_map ..
  refine ⟨by omega, ⟨fun k x y hk => ?_, ?_, ?_⟩, ⟨by rw [gapsZ_len, hlen], gapsZ_bd' _ (by omega) _⟩, ?_, fun i a b ha hb => ?_⟩
  · rw [List.getElem?_map] at hk
    cases hy : L[k]? with
    | none => rw [hy] at hk; cases hk
    | some z =>
      rw [hy] at hk
      obtain ⟨hkl, hz⟩ := List.getElem?_eq_some_iff.1 hy
      have hxy : clsF' vals C z = (x, y) := by simpa using hk
      have hx : x = ((ofB fun j => decide (j < vals.length) && pZ vals z j : Nat) : Int) := by
        have h1 : (clsF' vals C z).1 = _ := attrZ_ofB (pZ vals z) vals.length hv
        rw [hxy] at h1; exact h1
      have hyc : y = constZ C z C.length := by
        have h1 : (clsF' vals C z).2 = constZ C z C.length := rfl
        rw [hxy] at h1; exact h1
      have hlow : ∀ u ∈ L.take k, u < z := fun u hu => by
        obtain ⟨i, hi, e⟩ := List.getElem_of_mem hu
        rw [List.length_take] at hi
        rw [List.getElem_take] at e
        have := List.pairwise_iff_getElem.1 hL i k (by omega) hkl (by omega)
        omega
      rw [← List.map_take, or_map vals C hv, nx_map vals C]
      refine ⟨by rw [hx]; omega, ?_, ?_, ?_⟩
      · rw [hx]
        refine and_ofB0 _ _ fun j _ => ?_
        rw [Bool.and_eq_false_iff]
        by_cases hp : pZ vals z j = true
        · right
          have hz1 : vals.getD j 0 = z := by simpa [pZ] using hp
          rw [Bool.and_eq_false_iff]
          right
          refine List.any_eq_false.2 fun u hu => ?_
          have := hlow u hu
          show ¬ (pZ vals u j = true)
          unfold pZ
          rw [beq_iff_eq]
          omega
        · left; simp [hp]
      · intro hx0 hy1
        rw [hyc, const_mem] at hy1
        have hzL : z ∈ L := List.mem_of_getElem? hy
        rcases hor z hzL with h | ⟨j, hj, e⟩
        · exact hy1 h
        · rw [hx] at hx0
          have h0 : ofB (fun j => decide (j < vals.length) && pZ vals z j) = 0 := by omega
          have h9 := (ofB_zero _).1 h0 j (by omega)
          have h8 : pZ vals z j = true := by unfold pZ; rw [beq_iff_eq]; exact e
          rw [h8] at h9
          simp [hj] at h9
      · rw [hyc]
        by_cases hzC : z ∈ C
        · right
          have hsp : C = (L.take k).filter (fun y => decide (y ∈ C)) ++ z :: (L.drop (k + 1)).filter (fun y => decide (y ∈ C)) := by
            conv => lhs; rw [← hflt]
            conv => lhs; rw [← List.take_append_drop k L]
            rw [List.filter_append, List.drop_eq_getElem_cons hkl, hz, List.filter_cons, if_pos (by simpa using hzC)]
          have hat : C[((L.take k).filter (fun y => decide (y ∈ C))).length]? = some z := by
            have h9 := congrArg (fun M : List Int => M[((L.take k).filter (fun y => decide (y ∈ C))).length]?) hsp
            rw [h9, List.getElem?_append_right (Nat.le_refl _), Nat.sub_self]; rfl
          exact constZ_at C _ z hC hat C.length (List.getElem?_eq_some_iff.1 hat).1 (Nat.le_refl _)
        · left; exact (const_mem C z).2 hzC
  · rw [or_map vals C hv]
    have hcl : clamp (vals.length : Int) = vals.length := by unfold clamp; omega
    have h0 : 0 ≤ firstZ (vals.length : Int) ∧ firstZ (vals.length : Int) < 2147483648 := by
      unfold firstZ
      rw [hcl]
      have : (2 : Nat) ^ vals.length ≤ 2 ^ 31 := Nat.pow_le_pow_right (by omega) hv
      have h2 : (2 : Nat) ^ 31 = 2147483648 := by decide
      have h3 : 0 < (2 : Nat) ^ vals.length := Nat.pow_pos (by omega)
      omega
    rw [← ofB_self h0.1 h0.2]
    refine congrArg (fun n : Nat => (n : Int)) (ofB_congr _ _ fun j hj => ?_)
    rw [hasN_first _ j hj, hcl]
    by_cases h : j < vals.length
    · have : (L.any fun y => pZ vals y j) = true := List.any_eq_true.2 ⟨_, hval j h, by simp [pZ]⟩
      simp [h, this]
    · simp [h]
  · rw [nx_map vals C, hflt]
  · rw [hlen, ← List.length_map (f := fun p : Int => L.getD p.toNat 0), f1]
  · rw [hlen]
    have fa : ∀ (i : Nat) (a : Int), C[i]? = some a → ∃ p : Nat, (fixL (L.map (clsF' vals C)) L.length)[i]? = some (p : Int) ∧ L[p]? = some a := by
      intro i a ha
      have h1 := ha
      rw [← f1, List.getElem?_map] at h1
      cases hp : (fixL (L.map (clsF' vals C)) L.length)[i]? with
      | none => rw [hp] at h1; cases h1
      | some p =>
        rw [hp] at h1
        obtain ⟨b0, b1⟩ := f2 p (List.mem_of_getElem? hp)
        refine ⟨p.toNat, by rw [show ((p.toNat : Nat) : Int) = p by omega], ?_⟩
        simp only [Option.map_some, Option.some.injEq] at h1
        have hlt : p.toNat < L.length := by omega
        rw [List.getD_eq_getElem?_getD, List.getElem?_eq_getElem hlt] at h1
        rw [List.getElem?_eq_getElem hlt]
        exact congrArg some h1
    obtain ⟨p, hp, hpa⟩ := fa i a ha
    obtain ⟨q, hq, hqb⟩ := fa (i + 1) b hb
    obtain ⟨i1, e1⟩ := List.getElem?_eq_some_iff.1 hp
    obtain ⟨i2, e2⟩ := List.getElem?_eq_some_iff.1 hq
    have hlt := List.pairwise_iff_getElem.1 f3 i (i + 1) i1 i2 (by omega)
    rw [e1, e2] at hlt
    have hql := (List.getElem?_eq_some_iff.1 hqb).1
    exact ⟨p, q, hp, hq, by omega, by rw [gapsZ_len]; omega, fits_of L hL (kap r) p q a b (by omega) hpa hqb⟩

end Go.Proofs.YtkkoooagamadjaaGreatDoor
