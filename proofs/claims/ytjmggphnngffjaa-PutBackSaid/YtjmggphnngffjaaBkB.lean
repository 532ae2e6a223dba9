import Derived.Test.YtjmggphnngffjaaBkA
import Derived.Test.YtjmggphnngffjaaPutPlain
import Derived.Test.YtjmggphnngffjaaPutE
import Derived.Test.YtjmggphnngffjaaRPutE
import Derived.Test.YtjmggphnngffjaaRPutB
import Derived.Test.YtjmggphnngffjaaPutG
import Derived.Test.YtjmggphnngffjaaZArg
import Derived.Test.YtjmggphnngffjaaHalveRef
import Derived.Test.YtjmggphnngffjaaPutM
import Derived.Deep.RegionHeld3
/- PutBack: plain. What fits goes on fitting where gaps are clipped, or one is parted. -/
namespace Go.Proofs.Ytjmggphnngffjaa
open Go.RowKit Go.Shelf

def okS (s : Int) (wd : Bool) (a b : Int) : Bool := (gapZ a b (s + 1) == s) || (wd && decide (s < gapZ a b (s + 1)))
def nextS (K : Int) (st : Option (Int × Bool)) (y g : Int) : Option (Int × Bool) := if y < 0 then st.map fun q => (q.1 + 1 + g, q.2 || g == K) else some (g, g == K)
def headF (C : List Int) (st : Option (Int × Bool)) (y : Int) : Bool :=
  match st with
  | none => true
  | some q => decide (y < 0) || okS q.1 q.2 (C.getD (y - 1).toNat 0) (C.getD y.toNat 0)
def fitR (C : List Int) (K : Int) : Option (Int × Bool) → List Int → List Int → Bool
  | _, [], _ => true
  | st, y :: _, [] => headF C st y
  | st, y :: ys, g :: gs => headF C st y && fitR C K (nextS K st y g) ys gs

def stJ (cl : List (Int × Int)) (gl : List Int) (K : Int) (j : Nat) : Option (Int × Bool) :=
  if lastI cl j < 0 then none else some (sumP gl (lastI cl j).toNat j, (cutP gl (lastI cl j).toNat (j - (lastI cl j).toNat)).any (fun g => g == K))

theorem head_is (cl : List (Int × Int)) (gl C : List Int) (K : Int) (j : Nat) (x y : Int) (h : cl[j]? = some (x, y)) : headF C (stJ cl gl K j) y = fitOK cl gl C K j := by
  have hg : cl.getD j (0, -1) = (x, y) := by rw [List.getD_eq_getElem?_getD, h]; rfl
  unfold fitOK stJ
  rw [hg]
  by_cases hl : lastI cl j < 0
  · rw [if_pos hl, decide_eq_true hl]; simp [headF]
  · rw [if_neg hl, decide_eq_false hl]; simp [headF, okS, fitsB]
theorem next_is (cl : List (Int × Int)) (gl : List Int) (K : Int) (j : Nat) (x y g : Int) (h : cl[j]? = some (x, y)) (hg : gl[j]? = some g) : nextS K (stJ cl gl K j) y g = stJ cl gl K (j + 1) := by
  have hc : cl.getD j (0, -1) = (x, y) := by rw [List.getD_eq_getElem?_getD, h]; rfl
  have hlt := lastI_lt cl j
  have hge := lastI_ge cl j
  unfold nextS
  have hL : lastI cl (j + 1) = if y < 0 then lastI cl j else (j : Int) := by rw [lastI, hc]
  by_cases hy : y < 0
  · rw [if_pos hy]
    rw [if_pos hy] at hL
    unfold stJ
    rw [hL]
    by_cases hl : lastI cl j < 0
    · rw [if_pos hl, if_pos hl]; rfl
    · rw [if_neg hl, if_neg hl]
      obtain ⟨l, hl'⟩ : ∃ l : Nat, lastI cl j = l := ⟨(lastI cl j).toNat, by omega⟩
      rw [hl', Int.toNat_natCast]
      rw [hl'] at hlt
      obtain ⟨d, hd⟩ : ∃ d, j - l = d := ⟨_, rfl⟩
      have hc2 := cutP_succ gl l d g (by rw [show l + d = j by omega]; exact hg)
      unfold sumP
      rw [show j + 1 - l = d + 1 by omega, hd, hc2]
      simp
      omega
  · rw [if_neg hy]
    rw [if_neg hy] at hL
    unfold stJ
    rw [hL, if_neg (by omega)]
    have hc2 := cutP_succ gl j 0 g (by simpa using hg)
    unfold sumP
    rw [Int.toNat_natCast, show j + 1 - j = 0 + 1 by omega, hc2]
    simp [cutP]
    omega

theorem fit_from (cl : List (Int × Int)) (gl C : List Int) (K : Int) (hg : gl.length = cl.length - 1) (d : Nat) : ∀ j, j + d = cl.length → fitR C K (stJ cl gl K j) ((cl.drop j).map (·.2)) (gl.drop j) = (List.range' j d).all (fitOK cl gl C K) := by
  induction d with
  | zero => intro j hj; rw [List.drop_of_length_le (by omega)]; simp [fitR]
  | succ d ih =>
    intro j hj
    have hlt : j < cl.length := by omega
    have hx : cl[j]? = some (cl[j].1, cl[j].2) := List.getElem?_eq_getElem hlt
    rw [List.drop_eq_getElem_cons hlt, List.map_cons, List.range'_succ, List.all_cons]
    by_cases hl : j + 1 < cl.length
    · have hgj : j < gl.length := by omega
      rw [List.drop_eq_getElem_cons hgj]
      unfold fitR
      rw [head_is cl gl C K j _ _ hx, next_is cl gl K j _ _ _ hx (List.getElem?_eq_getElem hgj), ih (j + 1) (by omega)]
    · have hd : d = 0 := by omega
      subst hd
      rw [List.drop_of_length_le (by omega : gl.length ≤ j)]
      unfold fitR
      rw [head_is cl gl C K j _ _ hx]; simp
theorem fit_is (cl : List (Int × Int)) (gl C : List Int) (K : Int) (hg : gl.length = cl.length - 1) : fitAll cl gl C K cl.length = fitR C K none (cl.map (·.2)) gl := by
  have h := fit_from cl gl C K hg cl.length 0 (by omega)
  rw [List.drop_zero, List.drop_zero, show stJ cl gl K 0 = none by simp [stJ, lastI]] at h
  rw [h, fitAll, List.range_eq_range']

/-- a sum that is no greater, and wide where it is less -/
def StR (st st' : Option (Int × Bool)) : Prop :=
  match st, st' with
  | none, none => True
  | some q, some q' => 0 ≤ q'.1 ∧ q'.1 ≤ q.1 ∧ (q.2 = true → q'.2 = true) ∧ (q'.1 < q.1 → q'.2 = true)
  | _, _ => False
def GapR (K g g' : Int) (wd' : Bool) : Prop := 0 ≤ g' ∧ g' ≤ g ∧ (g = K → wd' = true) ∧ (g' < g → wd' = true)
theorem okS_is (s : Int) (wd : Bool) (a b : Int) (_h : 0 ≤ s) : okS s wd a b = true ↔ (max 0 (b - a - 1) = s ∨ (wd = true ∧ s < b - a - 1)) := by
  unfold okS gapZ
  cases wd
  · simp only [Bool.false_and, Bool.or_false, beq_iff_eq, Bool.false_eq_true, false_and, or_false]
    omega
  · simp only [Bool.true_and, Bool.or_eq_true, beq_iff_eq, decide_eq_true_iff, true_and]
    omega
theorem head_mono (C : List Int) (st st' : Option (Int × Bool)) (y : Int) (h : StR st st') (hf : headF C st y = true) : headF C st' y = true := by
  cases st with
  | none => cases st' with
    | none => rfl
    | some q' => exact absurd h (by simp [StR])
  | some q => cases st' with
    | none => exact absurd h (by simp [StR])
    | some q' =>
      obtain ⟨h1, h2, h3, h4⟩ : 0 ≤ q'.1 ∧ q'.1 ≤ q.1 ∧ (q.2 = true → q'.2 = true) ∧ (q'.1 < q.1 → q'.2 = true) := h
      simp only [headF, Bool.or_eq_true, decide_eq_true_iff] at hf ⊢
      rcases hf with hf | hf
      · exact .inl hf
      · refine .inr ?_
        rw [okS_is _ _ _ _ (by omega)] at hf
        rw [okS_is _ _ _ _ h1]
        by_cases hlt : q'.1 < q.1
        · have := h4 hlt
          rcases hf with hf | ⟨hf, hf2⟩
          · by_cases e : q'.1 < C.getD y.toNat 0 - C.getD (y - 1).toNat 0 - 1
            · exact .inr ⟨this, e⟩
            · exact .inl (by omega)
          · exact .inr ⟨this, by omega⟩
        · have e : q'.1 = q.1 := by omega
          rw [e]
          rcases hf with hf | ⟨hf, hf2⟩
          · exact .inl hf
          · exact .inr ⟨h3 hf, hf2⟩
theorem next_mono (K h : Int) (st st' : Option (Int × Bool)) (y g g' : Int) (hs : StR st st') (hg : GapR K g g' (g' == h)) : StR (nextS K st y g) (nextS h st' y g') := by
  obtain ⟨g1, g2, g3, g4⟩ := hg
  unfold nextS
  by_cases hy : y < 0
  · rw [if_pos hy, if_pos hy]
    cases st with
    | none => cases st' with
      | none => exact hs
      | some q' => exact hs
    | some q => cases st' with
      | none => exact hs
      | some q' =>
        obtain ⟨h1, h2, h3, h4⟩ : 0 ≤ q'.1 ∧ q'.1 ≤ q.1 ∧ (q.2 = true → q'.2 = true) ∧ (q'.1 < q.1 → q'.2 = true) := hs
        simp only [StR, Option.map_some, Bool.or_eq_true]
        refine ⟨by omega, by omega, ?_, ?_⟩
        · rintro (e | e)
          · exact .inl (h3 e)
          · exact .inr (g3 (by simpa using e))
        · intro e
          by_cases e1 : q'.1 < q.1
          · exact .inl (h4 e1)
          · exact .inr (g4 (by omega))
  · rw [if_neg hy, if_neg hy]
    simp only [StR]
    exact ⟨g1, g2, fun e => g3 (by simpa using e), fun e => g4 e⟩
theorem fitR_mono (C : List Int) (K h : Int) (f : Int → Int) : ∀ (ys gl : List Int) (st st' : Option (Int × Bool)), (∀ g ∈ gl, GapR K g (f g) (f g == h)) → StR st st' → fitR C K st ys gl = true → fitR C h st' ys (gl.map f) = true
  | [], _, _, _, _, _, _ => by unfold fitR; rfl
  | y :: ys, [], st, st', _, hs, hf => by
    rw [List.map_nil]
    unfold fitR at hf ⊢
    exact head_mono C st st' y hs hf
  | y :: ys, g :: gs, st, st', hg, hs, hf => by
    rw [List.map_cons]
    unfold fitR at hf ⊢
    rw [Bool.and_eq_true] at hf ⊢
    exact ⟨head_mono C st st' y hs hf.1, fitR_mono C K h f ys gs _ _ (fun x hx => hg x (List.mem_cons_of_mem _ hx)) (next_mono K h st st' y g (f g) hs (hg g (by simp))) hf.2⟩
/-- a gap parted by a class without a constant -/
theorem next_split (K h : Int) (st st' : Option (Int × Bool)) (y g s1 s2 : Int) (hs : StR st st') (hg : GapR K g (s1 + s2 + 1) ((s1 == h) || (s2 == h))) : StR (nextS K st y g) (nextS h (nextS h st' y s1) (-1) s2) := by
  obtain ⟨g1, g2, g3, g4⟩ := hg
  unfold nextS
  rw [if_pos (show (-1 : Int) < 0 by decide)]
  by_cases hy : y < 0
  · rw [if_pos hy, if_pos hy]
    cases st with
    | none => cases st' with
      | none => exact hs
      | some q' => exact hs
    | some q => cases st' with
      | none => exact hs
      | some q' =>
        obtain ⟨k1, k2, k3, k4⟩ : 0 ≤ q'.1 ∧ q'.1 ≤ q.1 ∧ (q.2 = true → q'.2 = true) ∧ (q'.1 < q.1 → q'.2 = true) := hs
        simp only [StR, Option.map_some, Bool.or_eq_true] at g3 g4 ⊢
        refine ⟨by omega, by omega, ?_, ?_⟩
        · rintro (e | e)
          · exact .inl (.inl (k3 e))
          · rcases g3 (by simpa using e) with e | e
            · exact .inl (.inr e)
            · exact .inr e
        · intro e
          by_cases e1 : q'.1 < q.1
          · exact .inl (.inl (k4 e1))
          · rcases g4 (by omega) with e | e
            · exact .inl (.inr e)
            · exact .inr e
  · rw [if_neg hy, if_neg hy]
    simp only [StR, Option.map_some]
    exact ⟨by omega, by omega, fun e => g3 (by simpa using e), fun e => g4 (by omega)⟩
theorem fitR_split (C : List Int) (K h : Int) (f : Int → Int) (g s1 s2 : Int) (B : List Int) (hg : GapR K g (s1 + s2 + 1) ((s1 == h) || (s2 == h))) (hB : ∀ g ∈ B, GapR K g (f g) (f g == h)) :
    ∀ (A ys : List Int) (st st' : Option (Int × Bool)), A.length < ys.length → (∀ g ∈ A, GapR K g (f g) (f g == h)) → StR st st' → fitR C K st ys (A ++ g :: B) = true →
      fitR C h st' (ys.take (A.length + 1) ++ [-1] ++ ys.drop (A.length + 1)) (A.map f ++ [s1, s2] ++ B.map f) = true
  | [], ys, st, st', hl, _, hs, hf => by
    cases ys with
    | nil => simp at hl
    | cons y ys =>
      simp only [List.length_nil, Nat.zero_add, List.take_succ_cons, List.take_zero, List.drop_succ_cons, List.drop_zero, List.map_nil, List.nil_append, List.cons_append] at hf ⊢
      unfold fitR at hf ⊢
      rw [Bool.and_eq_true] at hf ⊢
      refine ⟨head_mono C st st' y hs hf.1, ?_⟩
      unfold fitR
      rw [Bool.and_eq_true]
      refine ⟨?_, ?_⟩
      · unfold headF; split
        · rfl
        · rfl
      · exact fitR_mono C K h f ys B _ _ hB (next_split K h st st' y g s1 s2 hs hg) hf.2
  | a :: A, ys, st, st', hl, hA, hs, hf => by
    cases ys with
    | nil => simp at hl
    | cons y ys =>
      simp only [List.length_cons] at hl
      simp only [List.length_cons, List.take_succ_cons, List.drop_succ_cons, List.map_cons, List.cons_append] at hf ⊢
      unfold fitR at hf ⊢
      rw [Bool.and_eq_true] at hf ⊢
      exact ⟨head_mono C st st' y hs hf.1, fitR_split C K h f g s1 s2 B hg hB A ys _ _ (by omega) (fun x hx => hA x (List.mem_cons_of_mem _ hx)) (next_mono K h st st' y a (f a) hs (hA a (by simp))) hf.2⟩
theorem fitR_ahead (C : List Int) (h g : Int) (ys gl : List Int) : fitR C h none (-1 :: ys) (g :: gl) = fitR C h none ys gl := by
  conv => lhs; unfold fitR
  simp [headF, nextS]
theorem fitR_behind (C : List Int) (h g : Int) : ∀ (ys gl : List Int) (st : Option (Int × Bool)), ys.length = gl.length + 1 → fitR C h st ys gl = true → fitR C h st (ys ++ [-1]) (gl ++ [g]) = true
  | [], _, _, hl, _ => by simp at hl
  | y :: ys, [], st, hl, hf => by
    have : ys = [] := List.eq_nil_of_length_eq_zero (by simpa using hl)
    subst this
    simp only [List.nil_append, List.cons_append]
    unfold fitR at hf ⊢
    rw [hf, Bool.true_and]
    unfold fitR headF
    split
    · rfl
    · rfl
  | y :: ys, a :: gl, st, hl, hf => by
    simp only [List.length_cons] at hl
    simp only [List.cons_append]
    unfold fitR at hf ⊢
    rw [Bool.and_eq_true] at hf ⊢
    exact ⟨hf.1, fitR_behind C h g ys gl _ (by omega) hf.2⟩

end Go.Proofs.Ytjmggphnngffjaa

/- without and Drop of warderref23: plain. -/
namespace Go.Proofs.Ytjmggphnngffjaa
open Go.RowKit

/-- the gap ahead of a class that stays, where another one goes -/
def gapW (gl : List Int) (i : Nat) (r : Int) (k : Nat) : Int :=
  if k = i + 1 then klip (klip (gl.getD (i - 1) 0) r + klip (gl.getD i 0) r + 1) r else gl.getD (k - 1) 0
/-- what stands behind so many classes -/
def woS (cl : List (Int × Int)) (gl : List Int) (i : Nat) (r : Int) : Nat → Zn
  | 0 => ([], [])
  | k + 1 => if k = i then woS cl gl i r k else ((woS cl gl i r k).1 ++ [cl.getD k (0, -1)], if (woS cl gl i r k).1.length = 0 then (woS cl gl i r k).2 else (woS cl gl i r k).2 ++ [gapW gl i r k])
theorem woS_len (cl : List (Int × Int)) (gl : List Int) (i : Nat) (r : Int) (k : Nat) : (woS cl gl i r k).1.length = (if k ≤ i then k else k - 1) ∧ (woS cl gl i r k).2.length = (woS cl gl i r k).1.length - 1 := by
  induction k with
  | zero => simp [woS]
  | succ k ih =>
    obtain ⟨h1, h2⟩ := ih
    by_cases hk : k = i
    · rw [woS, if_pos hk]
      rw [if_pos (by omega)] at h1
      refine ⟨?_, h2⟩
      rw [if_neg (by omega)]; omega
    · rw [woS, if_neg hk]
      refine ⟨?_, ?_⟩
      · rw [List.length_append, h1]
        simp only [List.length_cons, List.length_nil]
        split <;> split <;> omega
      · rw [List.length_append]
        split
        · rename_i h0
          rw [h2, h0]; rfl
        · rename_i h0
          rw [List.length_append, h2]
          simp only [List.length_cons, List.length_nil]; omega
theorem woS_same (cl : List (Int × Int)) (gl : List Int) (i : Nat) (r : Int) : woS cl gl i r (i + 1) = woS cl gl i r i := by rw [woS, if_pos rfl]

/-- Drop, so many rounds, from a class on -/
def drpS (a r : Int) : Nat → Zn → Nat → Zn
  | 0, z, _ => z
  | f + 1, z, i =>
    if z.1.length ≤ i then z
    else if hasB (z.1.getD i (0, -1)).1 a = false then drpS a r f z (i + 1)
    else if putZ (z.1.getD i (0, -1)).1 a false = 0 ∧ (z.1.getD i (0, -1)).2 = -1 then drpS a r f (woS (z.1.set i (putZ (z.1.getD i (0, -1)).1 a false, (z.1.getD i (0, -1)).2)) z.2 i r z.1.length) i
    else drpS a r f (z.1.set i (putZ (z.1.getD i (0, -1)).1 a false, (z.1.getD i (0, -1)).2), z.2) (i + 1)
def drpZ (a r : Int) (z : Zn) : Zn := drpS a r z.1.length z 0

/-- a class where its place is known -/
theorem getD_cls {cl : List (Int × Int)} {i : Nat} {x y : Int} (h : cl[i]? = some (x, y)) : cl.getD i (0, -1) = (x, y) := by rw [List.getD_eq_getElem?_getD, h]; rfl

/-- classes in which the attribute is not stay -/
theorem drpS_none (a r : Int) (z : Zn) : ∀ (f i : Nat), (∀ j, i ≤ j → j < z.1.length → hasB (z.1.getD j (0, -1)).1 a = false) → drpS a r f z i = z := by
  intro f
  induction f with
  | zero => intro i _; rfl
  | succ f ih =>
    intro i h
    unfold drpS
    by_cases hl : z.1.length ≤ i
    · rw [if_pos hl]
    · rw [if_neg hl, if_pos (h i (Nat.le_refl _) (by omega))]
      exact ih (i + 1) (fun j h1 h2 => h j (by omega) h2)
/-- up to the class in which it is -/
theorem drpS_to (a r : Int) (z : Zn) : ∀ (d f i : Nat), (∀ j, i ≤ j → j < i + d → hasB (z.1.getD j (0, -1)).1 a = false) → i + d ≤ z.1.length → drpS a r (f + d) z i = drpS a r f z (i + d) := by
  intro d
  induction d with
  | zero => intro f i _ _; rfl
  | succ d ih =>
    intro f i h hl
    rw [show f + (d + 1) = (f + d) + 1 by omega]
    conv => lhs; unfold drpS
    rw [if_neg (by omega), if_pos (h i (Nat.le_refl _) (by omega)), ih f (i + 1) (fun j h1 h2 => h j (by omega) (by omega)) (by omega), show i + 1 + d = i + (d + 1) by omega]

theorem woS_cls (P R : List (Int × Int)) (c : Int × Int) (gl : List Int) (r : Int) (j : Nat) : j ≤ P.length + 1 + R.length → (woS (P ++ c :: R) gl P.length r j).1 = P.take j ++ R.take (j - (P.length + 1)) := by
  induction j with
  | zero => intro _; simp [woS]
  | succ j ih =>
    intro hj
    have ih := ih (by omega)
    unfold woS
    by_cases h : j = P.length
    · rw [if_pos h, ih, h]
      rw [List.take_of_length_le (Nat.le_refl _), List.take_of_length_le (Nat.le_succ _), show P.length - (P.length + 1) = 0 by omega, show P.length + 1 - (P.length + 1) = 0 by omega]
    · rw [if_neg h]
      dsimp only
      rw [ih]
      by_cases hlt : j < P.length
      · rw [show j - (P.length + 1) = 0 by omega, show j + 1 - (P.length + 1) = 0 by omega, List.take_zero, List.append_nil, List.append_nil, List.getD_eq_getElem?_getD, List.getElem?_append_left hlt, List.take_succ_eq_append_getElem hlt, List.getElem?_eq_getElem hlt]
        rfl
      · obtain ⟨m, hm⟩ : ∃ m, j = P.length + 1 + m := ⟨j - (P.length + 1), by omega⟩
        subst hm
        have hmR : m < R.length := by omega
        rw [List.take_of_length_le (by omega), List.take_of_length_le (by omega : P.length ≤ P.length + 1 + m + 1), show P.length + 1 + m - (P.length + 1) = m by omega, show P.length + 1 + m + 1 - (P.length + 1) = m + 1 by omega,
          List.getD_eq_getElem?_getD, List.getElem?_append_right (by omega), show P.length + 1 + m - P.length = m + 1 by omega, List.getElem?_cons_succ, List.getElem?_eq_getElem hmR, List.take_succ_eq_append_getElem hmR, List.append_assoc]
        rfl
/-- the gaps where they are one's own but for the class that goes -/
theorem woS_gaps (P R : List (Int × Int)) (c : Int × Int) (gl G : List Int) (r : Int) (h0 : 1 ≤ P.length → gl.take (P.length - 1) = G.take (P.length - 1)) (hG : G.length = P.length + R.length - 1) (hg : gl.length = P.length + R.length)
    (h1 : ∀ j, P.length + 2 ≤ j → j ≤ P.length + R.length → gl.getD (j - 1) 0 = G.getD (j - 2) 0)
    (h2 : 1 ≤ P.length → 1 ≤ R.length → klip (klip (gl.getD (P.length - 1) 0) r + klip (gl.getD P.length 0) r + 1) r = G.getD (P.length - 1) 0) (j : Nat) (hj : j ≤ P.length + 1 + R.length) :
    (woS (P ++ c :: R) gl P.length r j).2 = if j ≤ P.length then gl.take (j - 1) else G.take (j - 2) := by
  induction j with
  | zero => simp [woS]
  | succ j ih =>
    have ih := ih (by omega)
    obtain ⟨l1, l2⟩ := woS_len (P ++ c :: R) gl P.length r j
    unfold woS
    by_cases h : j = P.length
    · rw [if_pos h, ih, if_pos (by omega), if_neg (by omega), h]
      by_cases hp : 1 ≤ P.length
      · rw [h0 hp]; congr 1
      · rw [show P.length = 0 by omega]; rfl
    · rw [if_neg h]
      dsimp only
      rw [l1, ih]
      by_cases hlt : j < P.length
      · simp only [if_pos (show j ≤ P.length by omega), if_pos (show j + 1 ≤ P.length by omega)]
        by_cases hj0 : j = 0
        · rw [if_pos hj0, hj0]
        · rw [if_neg hj0]
          have hjg : j - 1 < gl.length := by omega
          rw [show j + 1 - 1 = (j - 1) + 1 by omega, List.take_succ_eq_append_getElem hjg]
          unfold gapW
          rw [if_neg (by omega), List.getD_eq_getElem?_getD, List.getElem?_eq_getElem hjg]
          rfl
      · simp only [if_neg (show ¬ j ≤ P.length by omega), if_neg (show ¬ j + 1 ≤ P.length by omega)]
        by_cases hj1 : j - 1 = 0
        · rw [if_pos hj1]
          have : j = 1 := by omega
          subst this
          rfl
        · rw [if_neg hj1]
          have hjG : j - 2 < G.length := by omega
          rw [show j + 1 - 2 = (j - 2) + 1 by omega, List.take_succ_eq_append_getElem hjG]
          congr 1
          unfold gapW
          by_cases hjp : j = P.length + 1
          · rw [if_pos hjp, h2 (by omega) (by omega), List.getD_eq_getElem?_getD, show P.length - 1 = j - 2 by omega, List.getElem?_eq_getElem hjG]
            rfl
          · rw [if_neg hjp, h1 j (by omega) (by omega), List.getD_eq_getElem?_getD, List.getElem?_eq_getElem hjG]
            rfl
theorem woS_all (P R : List (Int × Int)) (c : Int × Int) (gl G : List Int) (r : Int) (h0 : 1 ≤ P.length → gl.take (P.length - 1) = G.take (P.length - 1)) (hG : G.length = P.length + R.length - 1) (hg : gl.length = P.length + R.length)
    (h1 : ∀ j, P.length + 2 ≤ j → j ≤ P.length + R.length → gl.getD (j - 1) 0 = G.getD (j - 2) 0)
    (h2 : 1 ≤ P.length → 1 ≤ R.length → klip (klip (gl.getD (P.length - 1) 0) r + klip (gl.getD P.length 0) r + 1) r = G.getD (P.length - 1) 0) :
    woS (P ++ c :: R) gl P.length r (P.length + 1 + R.length) = (P ++ R, G) := by
  have e1 := woS_cls P R c gl r (P.length + 1 + R.length) (Nat.le_refl _)
  have e2 := woS_gaps P R c gl G r h0 hG hg h1 h2 (P.length + 1 + R.length) (Nat.le_refl _)
  rw [List.take_of_length_le (by omega), List.take_of_length_le (by omega)] at e1
  rw [if_neg (by omega), List.take_of_length_le (by omega)] at e2
  exact Prod.ext e1 e2

end Go.Proofs.Ytjmggphnngffjaa

/- PutBack: plain. Each zone that comes may be, and is the zone ahead without the attribute. -/
namespace Go.Proofs.Ytjmggphnngffjaa
open Go.RowKit Go.Shelf

theorem spl_in (g r : Int) (h1 : 1 ≤ r) (h2 : r ≤ 20) (hg0 : 0 ≤ g) (hg1 : g ≤ kap r) (s : Int × Int) (hs : s ∈ splP g r) :
    0 ≤ s.1 ∧ s.1 ≤ kap (r - 1) ∧ 0 ≤ s.2 ∧ s.2 ≤ kap (r - 1) ∧ s.1 + s.2 + 1 ≤ g ∧ (g = kap r → s.1 = kap (r - 1) ∨ s.2 = kap (r - 1)) ∧ (s.1 + s.2 + 1 < g → s.1 = kap (r - 1) ∨ s.2 = kap (r - 1)) := by
  have hk := kap_dbl r h1 h2
  rw [spl_ref g r h2] at hs
  unfold refP at hs
  by_cases hg : g < 1
  · rw [if_pos (.inr hg)] at hs; cases hs
  rw [if_neg (by omega), mem_gridP, decide_eq_true_iff] at hs
  obtain ⟨-, hs⟩ := hs
  have hkl : klip g r = g := by unfold klip; omega
  rw [hkl] at hs
  obtain ⟨h, hh⟩ : ∃ h : Nat, kap (r - 1) = h := ⟨_, rfl⟩
  rw [hh] at hk ⊢
  by_cases he : g = kap r
  · rw [if_pos he] at hs
    obtain ⟨n, hn⟩ : ∃ n : Nat, 3 * g + 3 = n := ⟨(3 * g + 3).toNat, by omega⟩
    rw [hn, truP_mem, hh] at hs
    obtain ⟨a, ha, rfl⟩ := List.mem_map.1 hs
    rw [List.mem_range] at ha
    simp only [ptP, P.lim]
    omega
  · rw [if_neg he] at hs
    obtain ⟨n, hn⟩ : ∃ n : Nat, g = n := ⟨g.toNat, by omega⟩
    subst hn
    rw [truP_mem, hh] at hs
    obtain ⟨a, ha, rfl⟩ := List.mem_map.1 hs
    rw [List.mem_range] at ha
    simp only [ptP, P.lim]
    omega
theorem gapR_clip (g r : Int) (h1 : 1 ≤ r) (h2 : r ≤ 20) (hg0 : 0 ≤ g) : GapR (kap r) g (klip g (r - 1)) (klip g (r - 1) == (kap (r - 1) : Int)) := by
  have hk := kap_dbl r h1 h2
  unfold GapR
  rw [beq_iff_eq]
  unfold klip
  omega
theorem gapR_split (g r : Int) (h1 : 1 ≤ r) (h2 : r ≤ 20) (hg0 : 0 ≤ g) (hg1 : g ≤ kap r) (s : Int × Int) (hs : s ∈ splP g r) : GapR (kap r) g (s.1 + s.2 + 1) ((s.1 == (kap (r - 1) : Int)) || (s.2 == (kap (r - 1) : Int))) := by
  obtain ⟨a1, a2, a3, a4, a5, a6, a7⟩ := spl_in g r h1 h2 hg0 hg1 s hs
  unfold GapR
  rw [Bool.or_eq_true, beq_iff_eq, beq_iff_eq]
  exact ⟨by omega, a5, a6, a7⟩
theorem merge_split (g r : Int) (h1 : 1 ≤ r) (h2 : r ≤ 20) (hg0 : 0 ≤ g) (hg1 : g ≤ kap r) (s : Int × Int) (hs : s ∈ splP g r) : klip (klip s.1 (r - 1) + klip s.2 (r - 1) + 1) (r - 1) = klip g (r - 1) := by
  obtain ⟨a1, a2, a3, a4, a5, a6, a7⟩ := spl_in g r h1 h2 hg0 hg1 s hs
  unfold klip
  omega

theorem check_parts (cl : List (Int × Int)) (gl C : List Int) (n r : Int) : checkZ cl gl n C r = true ↔ (0 ≤ n ∧ n ≤ 31) ∧ sitsB cl n 31 = true ∧ (clsF cl).1 = true ∧ (clsF cl).2 = C.length ∧ gl.length = cl.length - 1 ∧ gapsOK gl (kap r) = true ∧ fitAll cl gl C (kap r) cl.length = true := by
  unfold checkZ classesZ
  simp only [Bool.and_eq_true, decide_eq_true_iff, and_assoc, Int.natCast_inj]

def stF (s : Bool × Nat) (c : Int × Int) : Bool × Nat := (s.1 && stepC c.1 c.2 s.2, if c.2 = -1 then s.2 else s.2 + 1)
theorem stF_eq (s : Bool × Nat) (x y : Int) : stF s (x, y) = (s.1 && stepC x y s.2, if y = -1 then s.2 else s.2 + 1) := rfl
theorem clsF_is (cl : List (Int × Int)) : clsF cl = cl.foldl stF (true, 0) := rfl
theorem stF_true (l : List (Int × Int)) : ∀ s, (l.foldl stF s).1 = true → s.1 = true := by
  induction l with
  | nil => intro s h; exact h
  | cons c l ih =>
    intro s h
    have := ih _ h
    unfold stF at this
    rw [Bool.and_eq_true] at this
    exact this.1
theorem cls_own (P R : List (Int × Int)) (b : Int) (h0 : 0 < b) (h1 : b < 2147483648) : clsF (P ++ (b, -1) :: R) = clsF (P ++ R) := by
  rw [clsF_is, clsF_is, List.foldl_append, List.foldl_append, List.foldl_cons]
  obtain ⟨S, hS⟩ : ∃ S, P.foldl stF (true, 0) = S := ⟨_, rfl⟩
  rw [hS, stF_eq]
  have : stepC b (-1) S.2 = true := by rw [stepC_is]; simp; omega
  rw [this, Bool.and_true, if_pos rfl]
theorem cls_in (P R : List (Int × Int)) (x x' y : Int) (h0 : 0 < x') (h1 : x' < 2147483648) (h : (clsF (P ++ (x, y) :: R)).1 = true) : clsF (P ++ (x', y) :: R) = clsF (P ++ (x, y) :: R) := by
  rw [clsF_is, List.foldl_append, List.foldl_cons] at h
  rw [clsF_is, clsF_is, List.foldl_append, List.foldl_append, List.foldl_cons, List.foldl_cons]
  have h2 := stF_true R _ h
  obtain ⟨S, hS⟩ : ∃ S, P.foldl stF (true, 0) = S := ⟨_, rfl⟩
  rw [hS, stF_eq] at h2
  rw [hS, stF_eq, stF_eq]
  dsimp only at h2
  rw [Bool.and_eq_true] at h2
  obtain ⟨h3, h4⟩ := h2
  have h4' := h4
  rw [stepC_is, decide_eq_true_iff] at h4'
  have h5 : stepC x' y S.2 = true := by
    rw [stepC_is, decide_eq_true_iff]
    exact ⟨by omega, h1, .inl h0, h4'.2.2.2⟩
  rw [h4, h5]
theorem cls_step (P R : List (Int × Int)) (x y : Int) (h : (clsF (P ++ (x, y) :: R)).1 = true) : 0 ≤ x ∧ x < 2147483648 ∧ (0 < x ∨ 0 ≤ y) := by
  rw [clsF_is, List.foldl_append, List.foldl_cons] at h
  have h2 := stF_true R _ h
  unfold stF at h2
  rw [Bool.and_eq_true] at h2
  have h4 := h2.2
  rw [stepC_is, decide_eq_true_iff] at h4
  exact ⟨h4.1, h4.2.1, h4.2.2.1⟩
theorem cls_bd (cl : List (Int × Int)) (h : (clsF cl).1 = true) : ∀ c ∈ cl, (0 ≤ c.1 ∧ c.1 < 2147483648) ∧ -1 ≤ c.2 ∧ c.2 ≤ cl.length := by
  intro c hc
  obtain ⟨k, hk, rfl⟩ := List.getElem_of_mem hc
  have hp := clsF_pre cl h (cl.length - (k + 1)) (k + 1) (by omega)
  have hs := (clsF_back cl k hk hp).2
  rw [stepC_is, decide_eq_true_iff] at hs
  have hl := clsF_le cl k
  exact ⟨⟨hs.1, hs.2.1⟩, by omega, by omega⟩

theorem sits_split (P R : List (Int × Int)) (c : Int × Int) (b : Int) : sitsZ (P ++ c :: R) b = sitsZ (P ++ R) b + (if hasB c.1 b = true then 1 else 0) := by
  unfold sitsZ
  rw [List.filter_append, List.filter_append, List.filter_cons]
  split
  · simp; omega
  · simp
theorem sitsB_iff (cl : List (Int × Int)) (n : Int) : sitsB cl n 31 = true ↔ ∀ b : Nat, b < 31 → sitsZ cl b = if (b : Int) < n then 1 else 0 := by
  unfold sitsB
  simp [List.all_eq_true]
theorem sits_none (cl : List (Int × Int)) (n : Int) (h0 : 0 ≤ n) (h1 : n ≤ 30) (h : sitsB cl n 31 = true) : ∀ c ∈ cl, hasB c.1 n = false := by
  obtain ⟨k, rfl⟩ := Int.eq_ofNat_of_zero_le h0
  have hs := (sitsB_iff cl k).1 h k (by omega)
  rw [if_neg (by omega)] at hs
  unfold sitsZ at hs
  have he := List.eq_nil_of_length_eq_zero hs
  intro c hc
  have := List.filter_eq_nil_iff.1 he c hc
  simpa using this
theorem sits_more (P R : List (Int × Int)) (c : Int × Int) (cl : List (Int × Int)) (n : Int) (h : sitsB cl n 31 = true)
    (hb : ∀ b : Nat, b < 31 → sitsZ (P ++ c :: R) b = sitsZ cl b + (if (b : Int) = n then 1 else 0)) : sitsB (P ++ c :: R) (n + 1) 31 = true := by
  rw [sitsB_iff]
  intro b hb'
  rw [hb b hb', (sitsB_iff cl n).1 h b hb']
  split <;> split <;> split <;> omega

theorem bit_has (n b : Int) (b0 : 0 ≤ b) (b1 : b ≤ 30) : hasB (bitZ n) b = decide (b = n) := by
  unfold bitZ
  rw [hasB_putZ, if_pos ⟨b0, b1⟩]
  split
  · rename_i h; rw [decide_eq_true h]
  · rename_i h
    rw [decide_eq_false h]
    unfold hasB hasN
    simp
theorem bit_bd (n : Int) (h0 : 0 ≤ n) (h1 : n ≤ 30) : 0 < bitZ n ∧ bitZ n < 2147483648 := by
  have h := putZ_bd 0 n true
  have h2 : bitZ n ≠ 0 := fun e => by rw [bitZ_zero] at e; omega
  unfold bitZ at h2 ⊢
  omega
theorem put_bd (x n : Int) (h0 : 0 ≤ n) (h1 : n ≤ 30) : 0 < putZ x n true ∧ putZ x n true < 2147483648 := by
  have h := putZ_bd x n true
  have h2 : putZ x n true ≠ 0 := fun e => by
    have := hasB_putZ x n n true
    rw [if_pos ⟨h0, h1⟩, if_pos rfl, e] at this
    unfold hasB hasN at this
    simp at this
  omega
theorem put_clear (x n : Int) (h0 : 0 ≤ n) (h1 : n ≤ 30) (hx0 : 0 ≤ x) (hx1 : x < 2147483648) (hx : hasB x n = false) : putZ (putZ x n true) n false = x := by
  have hlo : ((lo x : Nat) : Int) = x := by unfold lo; omega
  have key : (ofB fun j => if (j : Int) = n then false else hasN (putZ x n true) j) = ofB (hasN x) := by
    refine ofB_congr _ _ fun j hj => ?_
    unfold hasB at hx
    rw [if_pos ⟨h0, h1⟩] at hx
    by_cases e : (j : Int) = n
    · rw [if_pos e, ← hx, show j = n.toNat by omega]
    · rw [if_neg e]
      unfold putZ
      rw [hasN_ofB _ _ hj, if_neg e]
  have e2 : putZ (putZ x n true) n false = ((ofB fun j => if (j : Int) = n then false else hasN (putZ x n true) j : Nat) : Int) := rfl
  rw [e2, key, ← lo_ofB, hlo]

section
variable (cl : List (Int × Int)) (gl C : List Int) (n r : Int)

/-- a zone with the attribute in a class of its own -/
theorem own_check (hc : checkZ cl gl n C r = true) (hn : n ≤ 30) (P R : List (Int × Int)) (hcl : cl = P ++ R) (G : List Int) (hG : G.length = cl.length) (hb : gapsOK G (kap (r - 1)) = true)
    (hf : fitR C (kap (r - 1)) none ((P ++ (bitZ n, -1) :: R).map (·.2)) G = true) : checkZ (P ++ (bitZ n, -1) :: R) G (n + 1) C (r - 1) = true := by
  obtain ⟨⟨a1, a2⟩, a3, a4, a5, a6, a7, a8⟩ := (check_parts cl gl C n r).1 hc
  obtain ⟨b1, b2⟩ := bit_bd n a1 hn
  rw [check_parts, cls_own P R _ b1 b2, ← hcl]
  refine ⟨by omega, sits_more P R _ cl n a3 fun b hb => ?_, a4, a5, ?_, hb, ?_⟩
  · rw [sits_split, ← hcl]
    dsimp only
    rw [bit_has n b (by omega) (by omega)]
    simp
  · rw [hG, hcl]; simp
  · rw [fit_is _ _ _ _ (by rw [hG, hcl]; simp)]; exact hf
theorem own_drop (hc : checkZ cl gl n C r = true) (hn : n ≤ 30) (P R : List (Int × Int)) (hcl : cl = P ++ R) (G G0 : List Int) (hw : woS (P ++ (0, -1) :: R) G P.length (r - 1) (P.length + 1 + R.length) = (P ++ R, G0)) :
    drpZ n (r - 1) (P ++ (bitZ n, -1) :: R, G) = (cl, G0) := by
  obtain ⟨⟨a1, a2⟩, a3, a4, a5, a6, a7, a8⟩ := (check_parts cl gl C n r).1 hc
  have hno := sits_none cl n a1 hn a3
  rw [hcl] at hno
  unfold drpZ
  have hlen : (P ++ (bitZ n, -1) :: R).length = (R.length + 1) + P.length := by simp; omega
  dsimp only
  rw [hlen, drpS_to n (r - 1) _ P.length (R.length + 1) 0 ?_ (by dsimp only; omega), Nat.zero_add]
  · have hget : (P ++ (bitZ n, -1) :: R).getD P.length (0, -1) = (bitZ n, -1) := getD_cls (by simp)
    unfold drpS
    dsimp only
    rw [hget, if_neg (by omega)]
    dsimp only
    rw [bit_has n n a1 hn, decide_eq_true rfl, if_neg (by decide), show putZ (bitZ n) n false = 0 from put_clear 0 n a1 hn (by decide) (by decide) (by unfold hasB hasN; simp), if_pos ⟨rfl, rfl⟩]
    rw [show (P ++ (bitZ n, -1) :: R).set P.length (0, -1) = P ++ (0, -1) :: R by simp, hlen, show R.length + 1 + P.length = P.length + 1 + R.length by omega, hw]
    rw [drpS_none, hcl]
    intro j _ hj
    dsimp only at hj ⊢
    rw [List.getD_eq_getElem?_getD, List.getElem?_eq_getElem hj]
    exact hno _ (List.getElem_mem _)
  · intro j _ hj
    dsimp only
    rw [Nat.zero_add] at hj
    rw [List.getD_eq_getElem?_getD, List.getElem?_append_left hj, List.getElem?_eq_getElem hj]
    exact hno _ (List.mem_append.2 (.inl (List.getElem_mem _)))
/-- a zone with the attribute in a class -/
theorem in_check (hc : checkZ cl gl n C r = true) (h1 : 1 ≤ r) (h2 : r ≤ 20) (hn : n ≤ 30) (P R : List (Int × Int)) (x y : Int) (hcl : cl = P ++ (x, y) :: R) : checkZ (P ++ (putZ x n true, y) :: R) (clipL gl (r - 1)) (n + 1) C (r - 1) = true := by
  obtain ⟨⟨a1, a2⟩, a3, a4, a5, a6, a7, a8⟩ := (check_parts cl gl C n r).1 hc
  obtain ⟨b1, b2⟩ := put_bd x n a1 hn
  have hno := sits_none cl n a1 hn a3 (x, y) (by rw [hcl]; simp)
  rw [hcl] at a4 a5 a6
  have hlen : (P ++ (putZ x n true, y) :: R).length = cl.length := by rw [hcl]; simp
  have hgl : gl.length = cl.length - 1 := by rw [a6, hcl]
  have hgb : ∀ g ∈ gl, 0 ≤ g ∧ g ≤ kap r := fun g hg => by
    unfold gapsOK at a7
    have := List.all_eq_true.1 a7 g hg
    simpa using this
  rw [check_parts, cls_in P R x _ y b1 b2 a4]
  refine ⟨by omega, sits_more P R _ cl n a3 fun b hb => ?_, a4, a5, ?_, ?_, ?_⟩
  · rw [hcl, sits_split, sits_split]
    dsimp only
    rw [hasB_putZ, if_pos (show 0 ≤ (b : Int) ∧ (b : Int) ≤ 30 by omega)]
    by_cases e : (b : Int) = n
    · rw [if_pos e, if_pos rfl, if_pos e, e, show hasB x n = false from hno]; simp
    · rw [if_neg e, if_neg e]; simp
  · rw [clipL_len, hlen, hgl]
  · unfold gapsOK
    rw [List.all_eq_true]
    intro g hg
    unfold clipL at hg
    obtain ⟨g0, hg0, rfl⟩ := List.mem_map.1 hg
    have := klip_bd g0 (r - 1)
    simp; omega
  · rw [fit_is _ _ _ _ (by rw [clipL_len, hlen, hgl])]
    rw [fit_is _ _ _ _ hgl] at a8
    rw [show (P ++ (putZ x n true, y) :: R).map (·.2) = cl.map (·.2) by rw [hcl]; simp]
    exact fitR_mono C _ _ _ _ _ none none (fun g hg => gapR_clip g r h1 h2 (hgb g hg).1) trivial a8
theorem in_drop (hc : checkZ cl gl n C r = true) (hn : n ≤ 30) (P R : List (Int × Int)) (x y : Int) (hcl : cl = P ++ (x, y) :: R) (G : List Int) : drpZ n (r - 1) (P ++ (putZ x n true, y) :: R, G) = (cl, G) := by
  obtain ⟨⟨a1, a2⟩, a3, a4, a5, a6, a7, a8⟩ := (check_parts cl gl C n r).1 hc
  have hno := sits_none cl n a1 hn a3
  have hxn := hno (x, y) (by rw [hcl]; simp)
  rw [hcl] at hno a4
  obtain ⟨s1, s2, s3⟩ := cls_step P R x y a4
  unfold drpZ
  have hlen : (P ++ (putZ x n true, y) :: R).length = (R.length + 1) + P.length := by simp; omega
  dsimp only
  rw [hlen, drpS_to n (r - 1) _ P.length (R.length + 1) 0 ?_ (by dsimp only; omega), Nat.zero_add]
  · have hget : (P ++ (putZ x n true, y) :: R).getD P.length (0, -1) = (putZ x n true, y) := getD_cls (by simp)
    unfold drpS
    dsimp only
    rw [hget, if_neg (by omega)]
    dsimp only
    rw [show hasB (putZ x n true) n = true by rw [hasB_putZ, if_pos (show 0 ≤ n ∧ n ≤ 30 from ⟨a1, hn⟩), if_pos rfl], if_neg (by decide), put_clear x n a1 hn s1 s2 hxn, if_neg (by omega)]
    rw [show (P ++ (putZ x n true, y) :: R).set P.length (x, y) = P ++ (x, y) :: R by simp]
    rw [drpS_none, hcl]
    intro j _ hj
    dsimp only at hj ⊢
    rw [List.getD_eq_getElem?_getD, List.getElem?_eq_getElem hj]
    exact hno _ (List.getElem_mem _)
  · intro j _ hj
    dsimp only
    rw [Nat.zero_add] at hj
    rw [List.getD_eq_getElem?_getD, List.getElem?_append_left hj, List.getElem?_eq_getElem hj]
    exact hno _ (List.mem_append.2 (.inl (List.getElem_mem _)))

/-- what a zone that comes is asked -/
def BackOK (z : Zn) : Prop := checkZ z.1 z.2 (n + 1) C (r - 1) = true ∧ drpZ n (r - 1) z = (cl, clipL gl (r - 1)) ∧ z.1.length ≤ cl.length + 1

theorem gapsOK_app (A B : List Int) (k : Int) : gapsOK (A ++ B) k = (gapsOK A k && gapsOK B k) := by unfold gapsOK; rw [List.all_append]
theorem gapsOK_clip (gl : List Int) (r : Int) : gapsOK (clipL gl r) (kap r) = true := by
  unfold gapsOK
  rw [List.all_eq_true]
  intro g hg
  unfold clipL at hg
  obtain ⟨g0, hg0, rfl⟩ := List.mem_map.1 hg
  have := klip_bd g0 r
  simp; omega

theorem back_own (hc : checkZ cl gl n C r = true) (hn : n ≤ 30) (P R : List (Int × Int)) (hcl : cl = P ++ R) (G : List Int) (hG : G.length = cl.length) (hb : gapsOK G (kap (r - 1)) = true)
    (hf : fitR C (kap (r - 1)) none ((P ++ (bitZ n, -1) :: R).map (·.2)) G = true) (hw : woS (P ++ (0, -1) :: R) G P.length (r - 1) (P.length + 1 + R.length) = (P ++ R, clipL gl (r - 1))) : BackOK cl gl C n r (P ++ (bitZ n, -1) :: R, G) :=
  ⟨own_check cl gl C n r hc hn P R hcl G hG hb hf, own_drop cl gl C n r hc hn P R hcl G _ hw, by rw [hcl]; simp; omega⟩

theorem back_A (hc : checkZ cl gl n C r = true) (h1 : 1 ≤ r) (h2 : r ≤ 20) (hn : n ≤ 30) (z : Zn) (hz : z ∈ putA cl gl n r) : BackOK cl gl C n r z := by
  obtain ⟨⟨a1, a2⟩, a3, a4, a5, a6, a7, a8⟩ := (check_parts cl gl C n r).1 hc
  have hgb : ∀ g ∈ gl, 0 ≤ g ∧ g ≤ kap r := fun g hg => by
    unfold gapsOK at a7
    have := List.all_eq_true.1 a7 g hg
    simpa using this
  have hgc : ∀ g ∈ gl, GapR (kap r) g (klip g (r - 1)) (klip g (r - 1) == (kap (r - 1) : Int)) := fun g hg => gapR_clip g r h1 h2 (hgb g hg).1
  rw [fit_is _ _ _ _ a6] at a8
  have hm := fitR_mono C _ _ _ _ _ none none hgc trivial a8
  have hcl0 := clipL_len gl (r - 1)
  unfold putA at hz
  by_cases h0 : cl.length = 0
  · rw [if_pos h0, List.mem_singleton] at hz
    subst hz
    have hcn := List.eq_nil_of_length_eq_zero h0
    subst hcn
    have hgn : gl = [] := List.eq_nil_of_length_eq_zero a6
    subst hgn
    exact back_own [] [] C n r hc hn [] [] rfl [] rfl rfl rfl rfl
  rw [if_neg h0, List.mem_append, List.mem_append] at hz
  rcases hz with (hz | hz) | hz
  · obtain ⟨g, hg, rfl⟩ := List.mem_map.1 hz
    rw [List.mem_reverse, mem_outL _ _ h1] at hg
    have e : ownZ cl gl n r 0 0 0 [g] = ([] ++ (bitZ n, -1) :: cl, g :: clipL gl (r - 1)) := by simp [ownZ, ownC, repG]
    rw [e]
    refine back_own cl gl C n r hc hn [] cl rfl _ (by simp; omega) ?_ ?_ ?_
    · rw [show g :: clipL gl (r - 1) = [g] ++ clipL gl (r - 1) from rfl, gapsOK_app, gapsOK_clip]
      simp [gapsOK, hg.1, hg.2]
    · simp only [List.nil_append, List.map_cons]
      rw [fitR_ahead]; exact hm
    · exact woS_all [] cl _ _ _ _ (by simp) (by simp; omega) (by simp; omega) (fun j h1 h2 => by
        obtain ⟨j, rfl⟩ : ∃ i, j = i + 2 := ⟨j - 2, by simp at h1; omega⟩
        rfl) (by simp)
  · obtain ⟨i, hi, hz⟩ := List.mem_flatMap.1 hz
    rw [List.mem_range] at hi
    have hsp : cl = cl.take i ++ cl[i] :: cl.drop (i + 1) := by rw [← List.drop_eq_getElem_cons hi, List.take_append_drop]
    have hil : (cl.take i).length = i := by rw [List.length_take]; omega
    unfold stepZ at hz
    have hgd : cl.getD i (0, 0) = cl[i] := by rw [List.getD_eq_getElem?_getD, List.getElem?_eq_getElem hi]; rfl
    rcases List.mem_cons.1 hz with rfl | hz
    · rw [hgd]
      unfold inCZ
      have hs : cl.set i (putZ cl[i].1 n true, cl[i].2) = cl.take i ++ (putZ cl[i].1 n true, cl[i].2) :: cl.drop (i + 1) := by
        rw [List.set_eq_take_append_cons_drop, if_pos hi]
      rw [hs]
      refine ⟨in_check cl gl C n r hc h1 h2 hn _ _ cl[i].1 cl[i].2 hsp, in_drop cl gl C n r hc hn _ _ cl[i].1 cl[i].2 hsp _, by rw [← hs]; simp⟩
    · split at hz
      · rename_i hlt
        obtain ⟨s, hs, rfl⟩ := List.mem_map.1 hz
        have hig : i < gl.length := by omega
        have hgi : gl.getD i 0 = gl[i] := by rw [List.getD_eq_getElem?_getD, List.getElem?_eq_getElem hig]; rfl
        rw [hgi] at hs
        obtain ⟨g0, g1⟩ := hgb gl[i] (List.getElem_mem _)
        obtain ⟨s1, s2, s3, s4, _⟩ := spl_in gl[i] r h1 h2 g0 g1 s hs
        have hgsp : gl = gl.take i ++ gl[i] :: gl.drop (i + 1) := by rw [← List.drop_eq_getElem_cons hig, List.take_append_drop]
        have hgl : (gl.take i).length = i := by rw [List.length_take]; omega
        have e : ownZ cl gl n r (i + 1) i (i + 1) [s.1, s.2] = (cl.take (i + 1) ++ (bitZ n, -1) :: cl.drop (i + 1), (gl.take i).map (fun g => klip g (r - 1)) ++ [s.1, s.2] ++ (gl.drop (i + 1)).map (fun g => klip g (r - 1))) := by
          simp [ownZ, ownC, repG, clipL, List.map_take, List.map_drop]
        rw [e]
        have hil1 : (cl.take (i + 1)).length = i + 1 := by rw [List.length_take]; omega
        refine back_own cl gl C n r hc hn _ _ (List.take_append_drop _ _).symm _ (by simp; omega) ?_ ?_ ?_
        · rw [gapsOK_app, gapsOK_app]
          rw [show (gl.take i).map (fun g => klip g (r - 1)) = clipL (gl.take i) (r - 1) from rfl, show (gl.drop (i + 1)).map (fun g => klip g (r - 1)) = clipL (gl.drop (i + 1)) (r - 1) from rfl, gapsOK_clip, gapsOK_clip]
          simp [gapsOK, s1, s2, s3, s4]
        · rw [hgsp] at a8
          have h := fitR_split C (kap r) (kap (r - 1)) (fun g => klip g (r - 1)) gl[i] s.1 s.2 (gl.drop (i + 1)) (gapR_split gl[i] r h1 h2 g0 g1 s hs) (fun g hg => hgc g (List.mem_of_mem_drop hg)) (gl.take i) (cl.map (·.2)) none none (by rw [hgl, List.length_map]; omega) (fun g hg => hgc g (List.mem_of_mem_take hg)) trivial a8
          rw [hgl] at h
          rw [List.map_append, List.map_cons, List.map_take, List.map_drop]
          simpa using h
        · refine woS_all (cl.take (i + 1)) (cl.drop (i + 1)) _ _ _ _ ?_ ?_ ?_ ?_ ?_
          · intro _
            rw [hil1]
            simp only [Nat.add_sub_cancel, clipL]
            rw [List.append_assoc, List.take_append_of_le_length (by simp; omega), List.take_of_length_le (by simp; omega), List.map_take]
          · rw [hcl0, hil1]; simp; omega
          · simp; omega
          · intro j hj1 hj2
            rw [hil1] at hj1 hj2
            obtain ⟨d, rfl⟩ : ∃ d, j = i + 3 + d := ⟨j - (i + 3), by omega⟩
            rw [List.getD_eq_getElem?_getD, List.getD_eq_getElem?_getD, List.getElem?_append_right (by simp; omega)]
            simp only [clipL, List.length_append, List.length_map, List.length_take, List.length_cons, List.length_nil, List.getElem?_map, List.getElem?_drop]
            rw [show i + 1 + (i + 3 + d - 1 - (min i gl.length + (0 + 1 + 1))) = i + 3 + d - 2 by omega]
          · intro _ _
            rw [hil1]
            simp only [Nat.add_sub_cancel]
            have hml : ((gl.take i).map (fun g => klip g (r - 1))).length = i := by rw [List.length_map, hgl]
            have q0 : ((gl.take i).map (fun g => klip g (r - 1)) ++ [s.1, s.2] ++ (gl.drop (i + 1)).map (fun g => klip g (r - 1))).getD i 0 = s.1 := by
              rw [List.getD_eq_getElem?_getD, List.append_assoc, List.getElem?_append_right (by omega), hml, Nat.sub_self]; rfl
            have q1 : ((gl.take i).map (fun g => klip g (r - 1)) ++ [s.1, s.2] ++ (gl.drop (i + 1)).map (fun g => klip g (r - 1))).getD (i + 1) 0 = s.2 := by
              rw [List.getD_eq_getElem?_getD, List.append_assoc, List.getElem?_append_right (by omega), hml, show i + 1 - i = 1 by omega]; rfl
            have q2 : (clipL gl (r - 1)).getD i 0 = klip gl[i] (r - 1) := by
              unfold clipL
              rw [List.getD_eq_getElem?_getD, List.getElem?_map, List.getElem?_eq_getElem hig]; rfl
            rw [q0, q1, q2]
            exact merge_split gl[i] r h1 h2 g0 g1 s hs
      · cases hz
  · obtain ⟨g, hg, rfl⟩ := List.mem_map.1 hz
    rw [mem_outL _ _ h1] at hg
    have e : ownZ cl gl n r cl.length (cl.length - 1) (cl.length - 1) [g] = (cl ++ (bitZ n, -1) :: [], clipL gl (r - 1) ++ [g]) := by
      unfold ownZ ownC repG
      rw [List.take_of_length_le (Nat.le_refl _), List.drop_of_length_le (Nat.le_refl _), List.take_of_length_le (by omega), List.drop_of_length_le (by omega)]
      simp
    rw [e]
    refine back_own cl gl C n r hc hn cl [] (by simp) _ (by simp; omega) ?_ ?_ ?_
    · rw [gapsOK_app, gapsOK_clip]
      simp [gapsOK, hg.1, hg.2]
    · rw [List.map_append]
      exact fitR_behind C _ g _ _ none (by simp [clipL]; omega) hm
    · refine woS_all cl [] _ _ _ _ ?_ (by simp; omega) (by simp; omega) (fun j h1 h2 => by simp at h2; omega) (by simp)
      intro _
      rw [List.take_append_of_le_length (by omega)]

theorem back_L (hc : checkZ cl gl n C r = true) (h1 : 1 ≤ r) (h2 : r ≤ 20) (hn : n ≤ 30) : 0 < (putL cl gl n r).length ∧ ∀ z ∈ putL cl gl n r, BackOK cl gl C n r z := by
  obtain ⟨⟨a1, a2⟩, a3, a4, a5, a6, a7, a8⟩ := (check_parts cl gl C n r).1 hc
  have hno := sits_none cl n a1 hn a3
  have e : putL cl gl n r = putA cl gl n r := by
    unfold putL
    rw [if_neg (by omega), if_neg (by rw [bitZ_zero]; omega), if_neg ?_, if_pos a6]
    rw [List.any_eq_true]
    rintro ⟨c, hc1, hc2⟩
    rw [hno c hc1] at hc2; cases hc2
  rw [e]
  refine ⟨?_, back_A cl gl C n r hc h1 h2 hn⟩
  unfold putA
  split
  · simp
  · rename_i h0
    rw [List.length_append, List.length_append]
    have : 0 < (midZ cl gl n r cl.length).length := by
      unfold midZ
      apply List.length_pos_iff.2
      intro he
      rw [List.flatMap_eq_nil_iff] at he
      have := he 0 (by simp; omega)
      unfold stepZ at this
      cases this
    omega
end

end Go.Proofs.Ytjmggphnngffjaa

/- without of warderref23. -/
namespace Go.Proofs.Ytjmggphnngffjaa
open Go.RowKit Go.Shelf

set_option maxRecDepth 100000 in
set_option maxHeartbeats 4000000 in
theorem rwithout_any {w : World} {v1 v2 : Value} {cl : List (Int × Int)} {gl : List Int} (i0 : Nat) (r : Int) (hz : ZoneIn w v1 v2 cl gl) (hi : i0 < cl.length) (hgl : gl.length = cl.length - 1) (hcl : cl.length ≤ 1000) :
    Calls Try.prog 45 #[.agg #[v1, v2], .int .i64 i0, .int .i64 r] w fun e w' => ∃ c1 c2, e = .returned (.agg #[c1, c2]) ∧ ZoneAt w' w.heap.size c1 c2 (woS cl gl i0 r cl.length).1 (woS cl gl i0 r cl.length).2 ∧ Below w.heap.size w w' := by
  obtain ⟨ad1, k1, e1⟩ := hz.1.len
  obtain ⟨ad2, k2, e2⟩ := hz.2.len
  obtain ⟨n, hn⟩ : ∃ n, cl.length = n := ⟨_, rfl⟩
  obtain ⟨m, hm⟩ : ∃ m, gl.length = m := ⟨_, rfl⟩
  rw [hn] at e1 hcl hi hgl ⊢; rw [hm] at e2 hgl
  subst e1; subst e2
  have HZ := Lib.hid hz; have HN := Lib.hid hn; have HM := Lib.hid hm; have HGL := Lib.hid hgl
  obtain ⟨W1, hW1⟩ : ∃ W1, w.alloc (.cells #[.slice ad1 n k1, .slice ad2 m k2] 45) = W1 := ⟨_, rfl⟩
  have hs1 : W1.heap.size = w.heap.size + 1 := by rw [← hW1]; simp
  obtain ⟨W2, hW2⟩ : ∃ W2, W1.alloc (.cells #[.slice none 0 0, .slice none 0 0] 45) = W2 := ⟨_, rfl⟩
  have hs2 : W2.heap.size = w.heap.size + 2 := by rw [← hW2]; simp [hs1]
  obtain ⟨W3, hW3⟩ : ∃ W3, W2.alloc (.cells #[.slice none 0 0, .slice none 0 0] 45) = W3 := ⟨_, rfl⟩
  have hb3 : Below w.heap.size w W3 := by
    rw [← hW3, ← hW2, ← hW1]; exact (((Below.refl _ w).alloc (Nat.le_refl _) _).alloc (by simp) _).alloc (by simp; omega) _
  have h0 : OS w (.slice ad1 n k1) (.slice ad2 m k2) (.slice none 0 0) (.slice none 0 0) [] [] W3 := by
    refine ⟨?_, ?_, ?_, ⟨World.ownsRow_nil _ _ _ _, World.ownsRow_nil _ _ _ _⟩, hb3⟩
    · rw [← hW3, ← hW2, ← hW1]; exact ((Blk.new _ _ _).alloc _).alloc _
    · rw [← hW3, ← hW2, ← hs1]; exact (Blk.new _ _ _).alloc _
    · rw [← hW3, ← hs2]; exact Blk.new _ _ _
  have H0 := Lib.hid h0
  clear hz hb3 h0 hn hm hgl
  go_enter Try.func45, Try.ntmps45
  go_wp2_with fail
  go_loopw [8] (fun i wr => ∃ k : Nat, i = .int .i64 k ∧ k ≤ n ∧ ∃ (x1 : Option Addr) (y1 : Nat) (x2 : Option Addr) (y2 : Nat), Hid (OS w (.slice ad1 n k1) (.slice ad2 m k2) (.slice x1 (woS cl gl i0 r k).1.length y1) (.slice x2 (woS cl gl i0 r k).2.length y2) (woS cl gl i0 r k).1 (woS cl gl i0 r k).2 wr)) (fun i _ => n - (intOf i).toNat)
  case atStart => exact ⟨0, rfl, Nat.zero_le _, none, 0, none, 0, H0.out⟩
  case round =>
    obtain ⟨k, rfl, hk, x1, y1, x2, y2, HS⟩ := hrel
    by_cases hlt : k < n
    · have hkn : (k : Int) < (n : Int) := by omega
      by_cases hki : k = i0
      · subst hki
        have HSA := Lib.hid (woS_same cl gl k r)
        obtain ⟨A, hA⟩ : ∃ A, (woS cl gl k r k).1 = A := ⟨_, rfl⟩
        obtain ⟨G, hG⟩ : ∃ G, (woS cl gl k r k).2 = G := ⟨_, rfl⟩
        have HAG : Hid ((woS cl gl k r (k + 1)).1 = A ∧ (woS cl gl k r (k + 1)).2 = G) := by unfold Hid; rw [HSA.out]; exact ⟨hA, hG⟩
        rw [hA, hG] at HS
        obtain ⟨c0, c1, c2, c3, c4, c5, c6⟩ := HS.out.facts
        clear hA hG
        go_wp2_with fail
        go_roundw
        case rel => exact ⟨k + 1, by go_num, by omega, x1, y1, x2, y2, by rw [HAG.out.1, HAG.out.2]; exact HS⟩
        case measure => simp [intOf]; omega
      · obtain ⟨hl1, hl2⟩ := woS_len cl gl i0 r k
        obtain ⟨xy, hxy⟩ : ∃ xy, cl[k]? = some xy := ⟨_, List.getElem?_eq_getElem (by rw [HN.out]; exact hlt)⟩
        obtain ⟨x, y⟩ := xy
        have HNX : Hid (woS cl gl i0 r (k + 1) = ((woS cl gl i0 r k).1 ++ [(x, y)], if (woS cl gl i0 r k).1.length = 0 then (woS cl gl i0 r k).2 else (woS cl gl i0 r k).2 ++ [gapW gl i0 r k])) := by
          unfold Hid; rw [woS, if_neg hki, getD_cls hxy]
        obtain ⟨A, hA⟩ : ∃ A, (woS cl gl i0 r k).1 = A := ⟨_, rfl⟩
        obtain ⟨G, hG⟩ : ∃ G, (woS cl gl i0 r k).2 = G := ⟨_, rfl⟩
        rw [hA, hG] at HS HNX hl2
        rw [hA] at hl1
        obtain ⟨na, hna⟩ : ∃ na, A.length = na := ⟨_, rfl⟩
        obtain ⟨ng, hng⟩ : ∃ ng, G.length = ng := ⟨_, rfl⟩
        rw [hna] at HS HNX hl1 hl2
        rw [hng] at HS hl2
        obtain ⟨c0, c1, c2, c3, c4, c5, c6⟩ := HS.out.facts
        have HNA := Lib.hid hna; have HNG := Lib.hid hng
        have hna1 : na ≤ 1000 := by split at hl1 <;> omega
        have hna0 : ¬ na = 0 → 1 ≤ k ∧ (k = i0 + 1 → 1 ≤ i0) := by intro h; split at hl1 <;> omega
        have hkii : ¬ (k : Int) = (i0 : Int) := by omega
        have hzr := (HZ.out.below HS.out.low).1
        rw [HN.out] at hzr
        obtain ⟨b', o', rfl, _, d0, d1⟩ := hzr.cls hxy (by omega)
        have HXY := Lib.hid hxy
        clear hzr hxy hA hG hna hng hl1
        go_upto_if 23 with fail
        go_cut [3, 6, 7, 8] (fun s3 s6 s7 s8 wx => s3 = .pointer (some ⟨w.heap.size, 0, none⟩) ∧ s6 = .pointer (some ⟨w.heap.size + 1, 0, none⟩) ∧ s7 = .pointer (some ⟨w.heap.size + 2, 0, none⟩) ∧ s8 = .int .i64 k ∧ ∃ (x2 : Option Addr) (y2 : Nat), Hid (OS w (.slice (some ⟨b', o', none⟩) n k1) (.slice ad2 m k2) (.slice x1 na y1) (.slice x2 (if na = 0 then G else G ++ [gapW gl i0 r k]).length y2) A (if na = 0 then G else G ++ [gapW gl i0 r k]) wx))
        case first =>
          by_cases hn0 : na = 0
          · subst hn0
            go_wp2_with fail
            go_meet
            refine ⟨rfl, rfl, rfl, rfl, x2, y2, ?_⟩
            simp only [↓reduceIte]
            rw [HNG.out]
            exact HS
          · have hnp : (0 : Int) < (na : Int) := by omega
            have hk1 := hna0 hn0
            obtain ⟨K, hK⟩ : ∃ K, k = K + 1 := ⟨k - 1, by omega⟩
            have hK1 : (k : Int) - 1 = (K : Int) := by omega
            have hmn : m = n - 1 := HGL.out
            have hKm : K < m := by omega
            have hz2 := (HZ.out.below HS.out.low).2
            rw [HM.out] at hz2
            obtain ⟨b2, o2, rfl, _, hgc⟩ := hz2.at (by omega)
            obtain ⟨gk, hgk⟩ : ∃ g, gl[K]? = some g := ⟨_, List.getElem?_eq_getElem (by rw [HM.out]; exact hKm)⟩
            have f0 : wr.cell? ⟨b2, o2 + K, none⟩ = some (.int .i64 gk) := hgc _ _ (by unfold ints; rw [List.getElem?_map, hgk]; rfl)
            have HRG := Lib.hid (show wr.ownsRow w.heap.size 3 1 (.slice x2 ng y2) ng (ints G) by have := HS.out.zn.2; rwa [HNG.out] at this)
            have hwsz := HS.out.low.size
            have hng1 : ng ≤ 1000 := by omega
            have hgkd : gl.getD K 0 = gk := by rw [List.getD_eq_getElem?_getD, hgk]; rfl
            clear hl2 hmn
            by_cases hKi : K = i0
            · subst hKi
              obtain ⟨I, hI⟩ : ∃ I, K = I + 1 := ⟨K - 1, by omega⟩
              have hI1 : (K : Int) - 1 = (I : Int) := by omega
              have hIm : I < m := by omega
              obtain ⟨gi, hgi⟩ : ∃ g, gl[I]? = some g := ⟨_, List.getElem?_eq_getElem (by rw [HM.out]; exact hIm)⟩
              have f1 : wr.cell? ⟨b2, o2 + I, none⟩ = some (.int .i64 gi) := hgc _ _ (by unfold ints; rw [List.getElem?_map, hgi]; rfl)
              have hgid : gl.getD I 0 = gi := by rw [List.getD_eq_getElem?_getD, hgi]; rfl
              obtain ⟨A1, hA1⟩ : ∃ A1, klip gi r = A1 := ⟨_, rfl⟩
              obtain ⟨B1, hB1⟩ : ∃ B1, klip gk r = B1 := ⟨_, rfl⟩
              obtain ⟨gv, hgv⟩ : ∃ gv, klip (A1 + B1 + 1) r = gv := ⟨_, rfl⟩
              have hA2 := klip_bd gi r
              have hB2 := klip_bd gk r
              rw [hA1] at hA2; rw [hB1] at hB2
              have hA3 : 0 ≤ A1 ∧ A1 ≤ 1048575 := ⟨hA2.1, hA2.2.2⟩
              have hB3 : 0 ≤ B1 ∧ B1 ≤ 1048575 := ⟨hB2.1, hB2.2.2⟩
              have HGW : Hid (gapW gl K r k = gv) := by
                unfold Hid gapW
                rw [if_pos hK, show K - 1 = I by omega, hgid, hgkd, hA1, hB1, hgv]
              have HC1 : Hid (∀ W, Calls Try.prog 22 #[.int .i64 gi, .int .i64 r] W fun e w' => e = .returned (.int .i64 A1) ∧ W = w') := fun W => by rw [← hA1]; exact rclip_any gi r W
              have HC2 : Hid (∀ W, Calls Try.prog 22 #[.int .i64 gk, .int .i64 r] W fun e w' => e = .returned (.int .i64 B1) ∧ W = w') := fun W => by rw [← hB1]; exact rclip_any gk r W
              have HC3 : Hid (∀ W, Calls Try.prog 22 #[.int .i64 (A1 + B1 + 1), .int .i64 r] W fun e w' => e = .returned (.int .i64 gv) ∧ W = w') := fun W => by rw [← hgv]; exact rclip_any _ r W
              clear hgk hgi hgkd hgid hgc hz2 hA1 hB1 hgv hA2 hB2 hk1 hna0 hI hK
              go_wp2_with fail
              refine (HC1.out _).mono ?_
              rintro e wq ⟨rfl, rfl⟩
              go_wp2_with fail
              refine (HC2.out _).mono ?_
              rintro e wq ⟨rfl, rfl⟩
              go_wp2_with fail
              refine (HC3.out _).mono ?_
              rintro e wq ⟨rfl, rfl⟩
              go_wp2_with (first
                | (at_builtin
                   go_loud (refine app1 wr #[.int .i64 gv] rfl _ _ 39 rfl w.heap.size 3 (.int .i64 0) 1 8 Try.underlying39 info_int rfl (by decide) (by decide) (.slice x2 ng y2) ng (ints G) rfl (by exact HRG.out) rfl (by simp) rfl (by simp [Value.oneCell']) (by omega) hwsz ?_)
                   intro v' w7 ho7 hg7 hb7
                   have hos : OS w _ _ _ _ _ _ _ := OS.appG (ys := [gv]) (c2' := v') HS.out (by rw [HNG.out]; simpa [ints] using ho7) hg7
                   obtain ⟨q0, q1, q2⟩ := HS.out.cellG hg7
                   obtain ⟨x5, y5, hv'⟩ := owns_len ho7
                   subst hv'
                   have HOS := Lib.hid hos
                   clear hos ho7 hg7 hb7)
                              | fail)
              go_meet
              refine ⟨rfl, rfl, rfl, rfl, x5, y5, ?_⟩
              rw [if_neg hn0, HGW.out, List.length_append, HNG.out]
              exact HOS.out
            · have hKi2 : ¬ (K : Int) = (i0 : Int) := by omega
              obtain ⟨gv, rfl⟩ : ∃ gv, gv = gk := ⟨_, rfl⟩
              have HGW : Hid (gapW gl i0 r k = gv) := by
                unfold Hid gapW
                rw [if_neg (by omega), show k - 1 = K by omega, hgkd]
              clear hgk hgkd hgc hz2 hk1 hna0 hK
              go_wp2_with (first
                | (at_builtin
                   go_loud (refine app1 wr #[.int .i64 gv] rfl _ _ 39 rfl w.heap.size 3 (.int .i64 0) 1 8 Try.underlying39 info_int rfl (by decide) (by decide) (.slice x2 ng y2) ng (ints G) rfl (by exact HRG.out) rfl (by simp) rfl (by simp [Value.oneCell']) (by omega) hwsz ?_)
                   intro v' w7 ho7 hg7 hb7
                   have hos : OS w _ _ _ _ _ _ _ := OS.appG (ys := [gv]) (c2' := v') HS.out (by rw [HNG.out]; simpa [ints] using ho7) hg7
                   obtain ⟨q0, q1, q2⟩ := HS.out.cellG hg7
                   obtain ⟨x5, y5, hv'⟩ := owns_len ho7
                   subst hv'
                   have HOS := Lib.hid hos
                   clear hos ho7 hg7 hb7)
                              | fail)
              go_meet
              refine ⟨rfl, rfl, rfl, rfl, x5, y5, ?_⟩
              rw [if_neg hn0, HGW.out, List.length_append, HNG.out]
              exact HOS.out
        case rest =>
          clear HS c0 c1 c2 c3 c4 c5 c6 d0 d1
          obtain ⟨rfl, rfl, rfl, rfl, x2', y2', HS⟩ := hcut
          obtain ⟨G', hG'⟩ : ∃ G', (if na = 0 then G else G ++ [gapW gl i0 r k]) = G' := ⟨_, rfl⟩
          rw [hG'] at HS HNX
          obtain ⟨ng', hng'⟩ : ∃ q, G'.length = q := ⟨_, rfl⟩
          rw [hng'] at HS
          have HNG2 := Lib.hid hng'
          obtain ⟨c0, c1, c2, c3, c4, c5, c6⟩ := HS.out.facts
          have hzr := (HZ.out.below HS.out.low).1
          rw [HN.out] at hzr
          obtain ⟨_, _, eq, _, d0, d1⟩ := hzr.cls HXY.out (by omega)
          cases eq
          have hba : Below wc.drew.heap.size wc.drew (wc.drew.alloc (.cells #[.int .i64 x, .int .i64 y] 63)) := (Below.refl _ _).alloc (Nat.le_refl _) _
          have hos2 := OS.below (W := wc.drew) (HS.out.below (Below.refl _ _).drew) hba
          obtain ⟨e0, e1, e2, e3, e4, e5, e6⟩ := hos2.facts
          have hzr3 := (HZ.out.below hos2.low).1
          rw [HN.out] at hzr3
          obtain ⟨_, _, eq, _, d2, d3⟩ := hzr3.cls HXY.out (by omega)
          cases eq
          have HOA := Lib.hid hos2
          have HRD : Hid (RdK (wc.drew.alloc (.cells #[.int .i64 x, .int .i64 y] 63)) 2 (.slice (some ⟨wc.drew.heap.size, 0, none⟩) 1 1) 1 (cellsP [(x, y)])) := by
            refine ⟨_, _, rfl, rfl, .inr ⟨wc.drew.heap.size, 0, rfl, by simp, fun t x hx => ?_⟩⟩
            rw [World.cell?_alloc_at _ _ _ _ (by simp)]
            simpa [cellsP] using hx
          have HRO : Hid ((wc.drew.alloc (.cells #[.int .i64 x, .int .i64 y] 63)).ownsRow w.heap.size 63 2 (.slice x1 na y1) na (cellsP A)) := by
            have := hos2.zn.1
            rw [HNA.out] at this
            exact this
          clear hos2 hba hzr hzr3 hG' hng' hna0
          go_upto_region 11 with fail
          go_region_law (first
            | (refine step_appX (w := wc.drew.alloc (.cells #[.int .i64 x, .int .i64 y] 63)) (by rfl) (.tmp 56) (.tmp 62) 43 (by rfl) 63 (.agg #[.int .i64 0, .int .i64 0]) 2 16 w.heap.size Try.underlying43 info_class rfl (by decide) (by decide) (.slice x1 na y1) na (cellsP A) (by simp [Act.eval]) HRO.out 1 (cellsP [(x, y)]) ⟨_, by simp [Act.eval], HRD.out⟩ (cellsP_one _) (by omega) HOA.out.low.size ?_
               intro v' w5 ho5 hg5
               have hos : OS w _ _ _ _ _ _ _ := OS.appC (ys := [(x, y)]) (c1' := v') HOA.out (by rw [HNA.out]; exact ho5) hg5
               obtain ⟨q0, q1, q2⟩ := HOA.out.cellC hg5
               obtain ⟨x1', y1', hv'⟩ := owns_len ho5
               subst hv'
               have HOS := Lib.hid hos
               clear hos ho5 hg5))
          all_goals
            go_wp2_with fail
            go_roundw
            case rel => exact ⟨k + 1, by go_num, by omega, x1', y1', x2', y2', by rw [HNX.out]; dsimp only; rw [List.length_append, HNA.out, HNG2.out]; exact HOS⟩
            case measure => simp [intOf]; omega
    · obtain rfl : k = n := by omega
      obtain ⟨c0, c1, c2, c3, c4, c5, c6⟩ := HS.out.facts
      have r0 := HS.out.res.two.1; have r1 := HS.out.res.two.2
      have r2 := HS.out.res.free 0; have r3 := HS.out.res.free 1
      go_wp2
      have v1 := HS.out.res.put2 (.slice x1 (woS cl gl i0 r k).1.length y1) (.slice x2 (woS cl gl i0 r k).2.length y2)
      have e0 := v1.two.1; have e1 := v1.two.2
      refine bodyPost_ret (v := .agg #[.slice x1 (woS cl gl i0 r k).1.length y1, .slice x2 (woS cl gl i0 r k).2.length y2]) (by simp [results, Try.results45, go_sem, e0, e1]) rfl ?_
      have z6 := HS.out.zn
      exact ⟨_, _, rfl, ⟨ownsRow_setCell_other (ownsRow_setCell_other z6.1 (HS.out.res.row_ne z6.1 (by decide)) _) (HS.out.res.row_ne z6.1 (by decide)) _, ownsRow_setCell_other (ownsRow_setCell_other z6.2 (HS.out.res.row_ne z6.2 (by decide)) _) (HS.out.res.row_ne z6.2 (by decide)) _⟩,
        (HS.out.low.setCell (p := ⟨w.heap.size + 1, 0, none⟩) (Nat.le_succ _) _).setCell (p := ⟨w.heap.size + 1, 1, none⟩) (Nat.le_succ _) _⟩

end Go.Proofs.Ytjmggphnngffjaa

/- Drop of warderref23. -/
namespace Go.Proofs.Ytjmggphnngffjaa
open Go.RowKit Go.Shelf

/-- a slice that reads, not in a box nor in the next one -/
def RdN (W : World) (bo k : Nat) (v : Value) (n : Nat) (xs : List Value) : Prop :=
  ∃ ad cap, v = .slice ad n cap ∧ xs.length = n * k ∧ (n = 0 ∨ ∃ b off, ad = some ⟨b, off, none⟩ ∧ b < W.heap.size ∧ b ≠ bo ∧ b ≠ bo + 1 ∧ ∀ t x, xs[t]? = some x → W.cell? ⟨b, off + t, none⟩ = some x)
theorem RdN.rd {W : World} {bo k n : Nat} {v : Value} {xs : List Value} (h : RdN W bo k v n xs) : RdK W k v n xs := by
  obtain ⟨ad, cap, hv, hl, h⟩ := h
  refine ⟨ad, cap, hv, hl, ?_⟩
  rcases h with h | ⟨b, off, ha, h1, _, _, hc⟩
  · exact .inl h
  · exact .inr ⟨b, off, ha, h1, hc⟩
theorem RdN.of_rd {w W : World} {k n : Nat} {v : Value} {xs : List Value} (h : RdK w k v n xs) (hb : Below w.heap.size w W) : RdN W w.heap.size k v n xs := by
  obtain ⟨ad, cap, hv, hl, h⟩ := h
  refine ⟨ad, cap, hv, hl, ?_⟩
  rcases h with h | ⟨b, off, ha, h1, hc⟩
  · exact .inl h
  · exact .inr ⟨b, off, ha, Nat.lt_of_lt_of_le h1 hb.size, by omega, by omega, fun t x hx => (hb.cell (p := ⟨b, off + t, none⟩) h1).trans (hc t x hx)⟩
theorem RdN.below {W W' : World} {bo k n : Nat} {v : Value} {xs : List Value} (h : RdN W bo k v n xs) (hb : Below W.heap.size W W') : RdN W' bo k v n xs := by
  obtain ⟨ad, cap, hv, hl, h⟩ := h
  refine ⟨ad, cap, hv, hl, ?_⟩
  rcases h with h | ⟨b, off, ha, h1, h2, h3, hc⟩
  · exact .inl h
  · exact .inr ⟨b, off, ha, Nat.lt_of_lt_of_le h1 hb.size, h2, h3, fun t x hx => (hb.cell (p := ⟨b, off + t, none⟩) h1).trans (hc t x hx)⟩
theorem RdN.set {W : World} {bo k n q : Nat} {v : Value} {xs : List Value} (h : RdN W bo k v n xs) (hq : q = bo ∨ q = bo + 1) (j : Nat) (u : Value) : RdN (W.setCell ⟨q, j, none⟩ u) bo k v n xs := by
  obtain ⟨ad, cap, hv, hl, h⟩ := h
  refine ⟨ad, cap, hv, hl, ?_⟩
  rcases h with h | ⟨b, off, ha, h1, h2, h3, hc⟩
  · exact .inl h
  · exact .inr ⟨b, off, ha, by simpa [World.setCell] using h1, h2, h3, fun t x hx => (World.cell?_of_block (a := ⟨b, off + t, none⟩) (Below.heap_setCell W ⟨q, j, none⟩ u b (by simp only; omega))).trans (hc t x hx)⟩
theorem RdN.of_owns {W : World} {bo base k n : Nat} {e t : TypeId} {v : Value} {xs : List Value} {cs cs' : Array Value} (h : W.ownsRow base e k v n xs) (h1 : Blk W bo cs t) (h2 : Blk W (bo + 1) cs' t) (ht : t ≠ e) : RdN W bo k v n xs := by
  have hr := RdK.of_owns h
  obtain ⟨ad, cap, hv, hl, hr⟩ := hr
  refine ⟨ad, cap, hv, hl, ?_⟩
  rcases hr with hr | ⟨b, off, ha, h3, hc⟩
  · exact .inl hr
  · have n1 := h1.row_ne h ht
    have n2 := h2.row_ne h ht
    rw [hv, ha] at n1 n2
    exact .inr ⟨b, off, ha, h3, fun e => n1 (by simp [Value.ownBlock, e]), fun e => n2 (by simp [Value.ownBlock, e]), hc⟩

/-- how Drop's zone lies -/
structure DS (w : World) (c1 c2 : Value) (cl : List (Int × Int)) (gl : List Int) (W : World) : Prop where
  z : Blk W w.heap.size #[c1, c2] 45
  res : Blk W (w.heap.size + 1) #[.slice none 0 0, .slice none 0 0] 45
  rc : RdN W w.heap.size 2 c1 cl.length (cellsP cl)
  rg : RdN W w.heap.size 1 c2 gl.length (ints gl)
  low : Below w.heap.size w W
theorem DS.below {w W W' : World} {c1 c2 : Value} {cl : List (Int × Int)} {gl : List Int} (h : DS w c1 c2 cl gl W) (hb : Below W.heap.size W W') : DS w c1 c2 cl gl W' :=
  ⟨h.z.keep hb, h.res.keep hb, h.rc.below hb, h.rg.below hb, h.low.trans (hb.mono h.low.size)⟩
theorem DS.zin {w W : World} {c1 c2 : Value} {cl : List (Int × Int)} {gl : List Int} (h : DS w c1 c2 cl gl W) : ZoneIn W c1 c2 cl gl := ⟨h.rc.rd, h.rg.rd⟩
theorem DS.facts {w W : World} {c1 c2 : Value} {cl : List (Int × Int)} {gl : List Int} (h : DS w c1 c2 cl gl W) :
    W.cell? ⟨w.heap.size, 0, none⟩ = some c1 ∧ W.cell? ⟨w.heap.size, 1, none⟩ = some c2 ∧ W.frozen? ⟨w.heap.size, 0, none⟩ = false ∧ W.frozen? ⟨w.heap.size, 1, none⟩ = false ∧ w.heap.size + 1 < W.heap.size :=
  ⟨h.z.two.1, h.z.two.2, h.z.free 0, h.z.free 1, h.res.lt⟩
/-- another zone in the box -/
theorem DS.turn {w W : World} {c1 c2 d1 d2 : Value} {cl cl' : List (Int × Int)} {gl gl' : List Int} (h : DS w c1 c2 cl gl W) (h1 : RdN W w.heap.size 2 d1 cl'.length (cellsP cl')) (h2 : RdN W w.heap.size 1 d2 gl'.length (ints gl')) :
    DS w d1 d2 cl' gl' ((W.setCell ⟨w.heap.size, 0, none⟩ d1).setCell ⟨w.heap.size, 1, none⟩ d2) :=
  ⟨h.z.put2 d1 d2, h.res.over2 (by omega) d1 d2, (h1.set (.inl rfl) 0 _).set (.inl rfl) 1 _, (h2.set (.inl rfl) 0 _).set (.inl rfl) 1 _,
    (h.low.setCell (p := ⟨w.heap.size, 0, none⟩) (Nat.le_refl _) _).setCell (p := ⟨w.heap.size, 1, none⟩) (Nat.le_refl _) _⟩

def lenC (bo : Nat) (W : World) : Nat :=
  match W.cell? ⟨bo, 0, none⟩ with
  | some (.slice _ n _) => n
  | _ => 0
theorem DS.len {w W : World} {c2 : Value} {ad : Option Addr} {n k : Nat} {cl : List (Int × Int)} {gl : List Int} (h : DS w (.slice ad n k) c2 cl gl W) : lenC w.heap.size W = n := by
  unfold lenC; rw [h.facts.1]

theorem drp_skip (a r : Int) (cl : List (Int × Int)) (gl : List Int) (f k : Nat) (x y : Int) (h : cl[k]? = some (x, y)) (hx : hasB x a = false) : drpS a r (f + 1) (cl, gl) k = drpS a r f (cl, gl) (k + 1) := by
  have := (List.getElem?_eq_some_iff.1 h).1
  conv => lhs; unfold drpS
  rw [if_neg (by dsimp only; omega)]
  dsimp only
  rw [getD_cls h, if_pos hx]
theorem drp_stay (a r : Int) (cl : List (Int × Int)) (gl : List Int) (f k : Nat) (x y : Int) (h : cl[k]? = some (x, y)) (hx : hasB x a = true) (hb : ¬ (putZ x a false = 0 ∧ y = -1)) : drpS a r (f + 1) (cl, gl) k = drpS a r f (cl.set k (putZ x a false, y), gl) (k + 1) := by
  have := (List.getElem?_eq_some_iff.1 h).1
  conv => lhs; unfold drpS
  rw [if_neg (by dsimp only; omega)]
  dsimp only
  rw [getD_cls h, if_neg (by rw [hx]; decide), if_neg hb]
theorem drp_go (a r : Int) (cl : List (Int × Int)) (gl : List Int) (f k : Nat) (x y : Int) (h : cl[k]? = some (x, y)) (hx : hasB x a = true) (hb : putZ x a false = 0 ∧ y = -1) : drpS a r (f + 1) (cl, gl) k = drpS a r f (woS (cl.set k (putZ x a false, y)) gl k r cl.length) k := by
  have := (List.getElem?_eq_some_iff.1 h).1
  conv => lhs; unfold drpS
  rw [if_neg (by dsimp only; omega)]
  dsimp only
  rw [getD_cls h, if_neg (by rw [hx]; decide), if_pos hb]

theorem woS_ok (cl : List (Int × Int)) (gl : List Int) (i : Nat) (r : Int) (h : ∀ c ∈ cl, ClsOK c) : ∀ k, k ≤ cl.length → ∀ c ∈ (woS cl gl i r k).1, ClsOK c := by
  intro k
  induction k with
  | zero => intro _ c hc; simp [woS] at hc
  | succ k ih =>
    intro hk c hc
    unfold woS at hc
    split at hc
    · exact ih (by omega) c hc
    · dsimp only at hc
      rcases List.mem_append.1 hc with hc | hc
      · exact ih (by omega) c hc
      · simp only [List.mem_cons, List.not_mem_nil, or_false] at hc
        rw [hc, List.getD_eq_getElem?_getD, List.getElem?_eq_getElem (by omega)]
        exact h _ (List.getElem_mem _)

set_option maxRecDepth 100000 in
set_option maxHeartbeats 4000000 in
theorem rdrop23_any {w : World} {v1 v2 : Value} {cl0 : List (Int × Int)} {gl0 : List Int} (a r : Int) (hz : ZoneIn w v1 v2 cl0 gl0) (hgl : gl0.length = cl0.length - 1) (hcl : cl0.length ≤ 1000) (hxb : ∀ c ∈ cl0, ClsOK c) :
    Calls Try.prog 24 #[.agg #[v1, v2], .int .i64 a, .int .i64 r] w fun e w' => ∃ c1 c2, e = .returned (.agg #[c1, c2]) ∧ ZoneIn w' c1 c2 (drpZ a r (cl0, gl0)).1 (drpZ a r (cl0, gl0)).2 ∧ Below w.heap.size w w' := by
  obtain ⟨ad1, k1, e1⟩ := hz.1.len
  obtain ⟨ad2, k2, e2⟩ := hz.2.len
  obtain ⟨n, hn⟩ : ∃ n, cl0.length = n := ⟨_, rfl⟩
  obtain ⟨m, hm⟩ : ∃ m, gl0.length = m := ⟨_, rfl⟩
  rw [hn] at e1 hcl hgl; rw [hm] at e2 hgl
  subst e1; subst e2
  have HZ := Lib.hid hz; have HN := Lib.hid hn; have HM := Lib.hid hm; have HGL := Lib.hid hgl; have HXB := Lib.hid hxb
  obtain ⟨W1, hW1⟩ : ∃ W1, w.alloc (.cells #[.slice ad1 n k1, .slice ad2 m k2] 45) = W1 := ⟨_, rfl⟩
  have hs1 : W1.heap.size = w.heap.size + 1 := by rw [← hW1]; simp
  obtain ⟨W2, hW2⟩ : ∃ W2, W1.alloc (.cells #[.slice none 0 0, .slice none 0 0] 45) = W2 := ⟨_, rfl⟩
  have hb2 : Below w.heap.size w W2 := by
    rw [← hW2, ← hW1]; exact ((Below.refl _ w).alloc (Nat.le_refl _) _).alloc (by simp) _
  have h0 : DS w (.slice ad1 n k1) (.slice ad2 m k2) cl0 gl0 W2 := by
    refine ⟨?_, ?_, RdN.of_rd hz.1 hb2, RdN.of_rd hz.2 hb2, hb2⟩
    · rw [← hW2, ← hW1]; exact (Blk.new _ _ _).alloc _
    · rw [← hW2, ← hs1]; exact Blk.new _ _ _
  have H0 := Lib.hid h0
  have HR : Hid (drpZ a r (cl0, gl0) = drpS a r n (cl0, gl0) 0) := by unfold Hid drpZ; rw [← hn]
  obtain ⟨c0, c1, c2, c3, c4⟩ := h0.facts
  clear hz hb2 h0 hn hm hgl hxb
  go_enter Try.func24, Try.ntmps24
  go_upto_if 17 with fail
  go_cut [1, 2, 3, 6] (fun s1 s2 s3 s6 wx => s1 = .int .i64 a ∧ s2 = .int .i64 r ∧ s3 = .pointer (some ⟨w.heap.size, 0, none⟩) ∧ s6 = .pointer (some ⟨w.heap.size + 1, 0, none⟩) ∧ wx = W2)
  case first =>
    have hcase : n = 0 ∨ 1 ≤ n := by omega
    rcases hcase with h | h
    · have hm0 : m = 0 := by have := HGL.out; omega
      subst h; subst hm0
      go_wp2_with fail
      go_meet
      exact ⟨rfl, rfl, rfl, rfl, rfl⟩
    · have hm1 : (n : Int) - 1 = (m : Int) := by have := HGL.out; omega
      go_wp2_with fail
      go_meet
      exact ⟨rfl, rfl, rfl, rfl, rfl⟩
  case rest =>
    clear c0 c1 c2 c3 c4
    obtain ⟨rfl, rfl, rfl, rfl, rfl⟩ := hcut
    have hn0 : Hid (cl0.length = n) := HN
    go_wp2_with fail
    go_loopw [7] (fun i wr => ∃ (k f : Nat) (d1 d2 : Value) (cl : List (Int × Int)) (gl : List Int), i = .int .i64 k ∧ k ≤ cl.length ∧ cl.length - k ≤ f ∧ cl.length ≤ 1000 ∧ Hid (drpZ a r (cl0, gl0) = drpS a r f (cl, gl) k) ∧ Hid (gl.length = cl.length - 1) ∧ Hid (∀ c ∈ cl, ClsOK c) ∧ Hid (DS w d1 d2 cl gl wr)) (fun i wr => lenC w.heap.size wr - (intOf i).toNat)
    case atStart => exact ⟨0, n, _, _, cl0, gl0, rfl, Nat.zero_le _, by rw [HN.out]; omega, by rw [HN.out]; exact hcl, HR, by unfold Hid; rw [HN.out, HM.out]; exact HGL.out, HXB, H0⟩
    case round =>
      clear HN HM HGL HXB H0 HR HZ hn0 hcl
      obtain ⟨k, f, d1, d2, cl, gl, rfl, hk, hf, hcl, HD, HG, HXC, HS⟩ := hrel
      obtain ⟨ad1, k1, e1⟩ := HS.out.rc.rd.len
      obtain ⟨ad2, k2, e2⟩ := HS.out.rg.rd.len
      obtain ⟨p, hp⟩ : ∃ n, cl.length = n := ⟨_, rfl⟩
      obtain ⟨q, hq⟩ : ∃ m, gl.length = m := ⟨_, rfl⟩
      rw [hp] at e1 hk hf hcl HG; rw [hq] at e2 HG
      subst e1; subst e2
      have HP := Lib.hid hp; have HQ := Lib.hid hq
      obtain ⟨c0, c1, c2, c3, c4⟩ := HS.out.facts
      have HLEN := Lib.hid HS.out.len
      clear hp hq
      by_cases hlt : k < p
      · have hkn : (k : Int) < (p : Int) := by omega
        obtain ⟨xy, hxy⟩ : ∃ xy, cl[k]? = some xy := ⟨_, List.getElem?_eq_getElem (by rw [HP.out]; exact hlt)⟩
        obtain ⟨x, y⟩ := xy
        have hzr := HS.out.rc.rd
        rw [HP.out] at hzr
        obtain ⟨b', o', rfl, _, d0, d1⟩ := hzr.cls hxy (by omega)
        obtain ⟨⟨hx0, hx1⟩, hy⟩ := HXC.out (x, y) (List.mem_of_getElem? hxy)
        dsimp only at hx0 hx1 hy
        obtain ⟨f', rfl⟩ : ∃ g, f = g + 1 := ⟨f - 1, by omega⟩
        have HXY := Lib.hid hxy
        have HY := Lib.hid hy
        have HHA := Lib.hid (rhas_any x a wr hx0 hx1)
        obtain ⟨hs, hhs⟩ : ∃ hs, hasB x a = hs := ⟨_, rfl⟩
        rw [hhs] at HHA
        have HHS := Lib.hid hhs
        clear hxy hzr hhs hy
        go_wp2_with fail
        refine HHA.out.mono ?_
        rintro e w' ⟨rfl, rfl⟩
        clear HHA
        cases hs
        · have HD2 : Hid (drpZ a r (cl0, gl0) = drpS a r f' (cl, gl) (k + 1)) := by unfold Hid; rw [HD.out, drp_skip a r cl gl f' k x y HXY.out HHS.out]
          go_wp2_with fail
          go_roundw
          case rel => exact ⟨k + 1, f', _, _, cl, gl, by go_num, by rw [HP.out]; omega, by rw [HP.out]; omega, by rw [HP.out]; exact hcl, HD2, by unfold Hid; rw [HP.out, HQ.out]; exact HG.out, HXC, HS⟩
          case measure => rw [HLEN.out]; simp [intOf]; omega
        · obtain ⟨W3, hW3⟩ : ∃ W3, wr.alloc (.cells #[] 63) = W3 := ⟨_, rfl⟩
          have hb3 : Below wr.heap.size wr W3 := by rw [← hW3]; exact (Below.refl _ wr).alloc (Nat.le_refl _) _
          have own0 : W3.ownsRow wr.heap.size 63 2 (.slice (some ⟨wr.heap.size, 0, none⟩) 0 0) 0 [] := by
            rw [← hW3]; exact World.ownsRow_lit wr #[] 0 (Nat.le_refl _) (Nat.zero_le _) rfl
          have ds3 := HS.out.below hb3
          have hr3 := ds3.rc.rd
          rw [HP.out] at hr3
          obtain ⟨e0, e1, e2, e3, e4⟩ := ds3.facts
          have HB3 := Lib.hid hb3; have HO0 := Lib.hid own0; have HR3 := Lib.hid hr3
          have hws3 := hb3.size
          clear hb3 own0 ds3 hr3 d0 d1
          go_wp2_with (first
            | (at_builtin
               refine wpList_appX W3 rfl _ _ 43 rfl 63 (.agg #[.int .i64 0, .int .i64 0]) 2 16 wr.heap.size Try.underlying43 info_class rfl (by decide) (by decide) (.slice (some ⟨wr.heap.size, 0, none⟩) 0 0) 0 [] rfl HO0.out p (cellsP cl) ⟨_, rfl, HR3.out⟩ (cellsP_one _) (by omega) hws3 ?_
               intro v' w5 ho5 hg5
               have hb5 := HB3.out.grown hg5 HB3.out.size (fun k e => by simp [Value.ownBlock] at e; omega)
               rw [Nat.zero_add, List.nil_append] at ho5
               obtain ⟨g5, cap5, hv', hg5a, hg5b⟩ := owns_shape ho5 (by omega)
               subst hv'
               have d0 : w5.cell? ⟨g5, k * 2, none⟩ = some (.int .i64 x) := by rw [ho5.cellAt _ (by omega)]; exact (cellsP_get _ _ _ HXY.out).1
               have HB5 := Lib.hid hb5; have HO5 := Lib.hid ho5
               clear hb5 ho5 hg5)
            | fail)
          have HPT := Lib.hid (put_any x a false w5 hx0 hx1)
          obtain ⟨bb, hbb⟩ : ∃ bb, putZ x a false = bb := ⟨_, rfl⟩
          have HBB := Lib.hid hbb
          rw [hbb] at HPT
          have hbd := putZ_bd x a false
          rw [hbb] at hbd
          clear hbb
          with_reducible refine HPT.out.mono ?_
          rintro e w6 ⟨rfl, hb6⟩
          have o6 := owns_below HO5.out hb6
          have hb60 := HB5.out.trans (hb6.mono HB5.out.size)
          have f0 : w6.cell? ⟨g5, k * 2, none⟩ = some (.int .i64 x) := by
            rw [o6.cellAt _ (by omega)]; exact (cellsP_get _ _ _ HXY.out).1
          have f1 := owns_frozen o6 (k * 2)
          have hg6 : g5 < w6.heap.size := Nat.lt_of_lt_of_le hg5b hb6.size
          have o7 := owns_set o6 (k * 2) (.int .i64 bb)
          have hb7 : Below wr.heap.size wr (w6.setCell ⟨g5, k * 2, none⟩ (.int .i64 bb)) := hb60.setCell (p := ⟨g5, k * 2, none⟩) hg5a _
          rw [← cellsP_set1 _ _ _ _ _ HXY.out] at o7
          have hX2 : (cl.set k (bb, y))[k]? = some (bb, y) := by rw [List.getElem?_set_self (by rw [HP.out]; exact hlt)]
          have hP2 : (cl.set k (bb, y)).length = p := by rw [List.length_set, HP.out]
          have HXC2 : Hid (∀ c ∈ cl.set k (bb, y), ClsOK c) := by
            unfold Hid
            intro c hc
            rcases List.mem_or_eq_of_mem_set hc with hc | hc
            · exact HXC.out c hc
            · rw [hc]; exact ⟨⟨by dsimp only; omega, by dsimp only; omega⟩, HY.out⟩
          have HDA : Hid (¬ (bb = 0 ∧ y = -1) → drpZ a r (cl0, gl0) = drpS a r f' (cl.set k (bb, y), gl) (k + 1)) := by
            unfold Hid; intro h; rw [HD.out, ← HBB.out]; exact drp_stay a r cl gl f' k x y HXY.out HHS.out (by rw [HBB.out]; exact h)
          have HDB : Hid (bb = 0 ∧ y = -1 → drpZ a r (cl0, gl0) = drpS a r f' (woS (cl.set k (bb, y)) gl k r p) k) := by
            unfold Hid; intro h; rw [HD.out, ← HP.out, ← HBB.out]; exact drp_go a r cl gl f' k x y HXY.out HHS.out (by rw [HBB.out]; exact h)
          obtain ⟨C2, hC2⟩ : ∃ C2, cl.set k (bb, y) = C2 := ⟨_, rfl⟩
          rw [hC2] at o7 hX2 hP2 HXC2 HDA HDB
          obtain ⟨w7, hw7⟩ : ∃ w7, w6.setCell ⟨g5, k * 2, none⟩ (.int .i64 bb) = w7 := ⟨_, rfl⟩
          rw [hw7] at o7 hb7
          have ds7 := HS.out.below hb7
          obtain ⟨h0, h1, h2, h3, h4⟩ := ds7.facts
          have rc8 : RdN w7 w.heap.size 2 (.slice (some ⟨g5, 0, none⟩) p cap5) C2.length (cellsP C2) := by rw [hP2]; exact RdN.of_owns o7 ds7.z ds7.res (by decide)
          have ds8 := ds7.turn rc8 ds7.rg
          have o8 := ownsRow_setCell_other (a := ⟨w.heap.size, 1, none⟩) (ownsRow_setCell_other (a := ⟨w.heap.size, 0, none⟩) o7 (ds7.z.row_ne o7 (by decide)) (.slice (some ⟨g5, 0, none⟩) p cap5)) ((ds7.z.row_ne o7 (by decide))) (.slice ad2 q k2)
          obtain ⟨w8, hw8⟩ : ∃ W, (w7.setCell ⟨w.heap.size, 0, none⟩ (.slice (some ⟨g5, 0, none⟩) p cap5)).setCell ⟨w.heap.size, 1, none⟩ (.slice ad2 q k2) = W := ⟨_, rfl⟩
          rw [hw8] at ds8 o8
          have g0 : w8.cell? ⟨g5, k * 2, none⟩ = some (.int .i64 bb) := by rw [o8.cellAt _ (by omega)]; exact (cellsP_get _ _ _ hX2).1
          have g1 : w8.cell? ⟨g5, k * 2 + 1, none⟩ = some (.int .i64 y) := by rw [o8.cellAt _ (by omega)]; exact (cellsP_get _ _ _ hX2).2
          obtain ⟨i0, i1, i2, i3, i4⟩ := ds8.facts
          have HS8 := Lib.hid ds8
          have HP2 := Lib.hid hP2
          have HX2 := Lib.hid hX2
          have HLEN8 := Lib.hid ds8.len
          clear hb6 o6 hb60 o7 hb7 hC2 ds7 rc8 ds8 o8 HPT HO5 HB5 HO0 HR3 HB3 HBB hX2 hP2 e0 e1 e2 e3 e4 c0 c1 c2 c3 d0 HS HD HXC HXY
          by_cases hb0 : bb = 0
          · by_cases hy1 : y = -1
            · have HDC := Lib.hid (HDB.out ⟨hb0, hy1⟩)
              subst hb0; subst hy1
              have HW := Lib.hid (rwithout_any k r HS8.out.zin (by rw [HP2.out]; exact hlt) (by rw [HQ.out, HP2.out]; exact HG.out) (by rw [HP2.out]; exact hcl))
              rw [HP2.out] at HW
              have hwl := woS_len C2 gl k r p
              rw [if_neg (by omega)] at hwl
              have hwok := woS_ok C2 gl k r HXC2.out p (by rw [HP2.out]; exact Nat.le_refl _)
              obtain ⟨zw, hzw⟩ : ∃ zw, woS C2 gl k r p = zw := ⟨_, rfl⟩
              rw [hzw] at HW HDC hwl hwok
              obtain ⟨zc, zg⟩ := zw
              dsimp only at HW hwl hwok
              have HWL := Lib.hid hwl
              have HWOK := Lib.hid hwok
              clear hwl hwok hzw HDA HDB
              go_wp2_with fail
              refine HW.out.mono ?_
              rintro e w9 ⟨t1, t2, rfl, zz, hb9⟩
              obtain ⟨a1, q1, ev1⟩ := owns_len zz.1
              obtain ⟨a2, q2, ev2⟩ := owns_len zz.2
              subst ev1; subst ev2
              have ds9 := HS8.out.below hb9
              obtain ⟨j0, j1, j2, j3, j4⟩ := ds9.facts
              have ds10 := ds9.turn (RdN.of_owns zz.1 ds9.z ds9.res (by decide)) (RdN.of_owns zz.2 ds9.z ds9.res (by decide))
              have HS10 := Lib.hid ds10
              have HLEN10 := Lib.hid ds10.len
              clear zz hb9 ds9 ds10
              go_wp2_with fail
              go_roundw
              case rel => exact ⟨k, f', _, _, zc, zg, rfl, by rw [HWL.out.1]; omega, by rw [HWL.out.1]; omega, by rw [HWL.out.1]; omega, HDC, HWL.out.2, HWOK, HS10⟩
              case measure => rw [HLEN10.out, HLEN.out, HWL.out.1]; simp [intOf]; omega
            · have HDC := Lib.hid (HDA.out (fun h => hy1 h.2))
              subst hb0
              clear HDA HDB
              go_wp2_with fail
              go_roundw
              case rel => exact ⟨k + 1, f', _, _, C2, gl, by go_num, by rw [HP2.out]; omega, by rw [HP2.out]; omega, by rw [HP2.out]; exact hcl, HDC, by unfold Hid; rw [HP2.out, HQ.out]; exact HG.out, HXC2, HS8⟩
              case measure => rw [HLEN8.out, HLEN.out]; simp [intOf]; omega
          · have HDC := Lib.hid (HDA.out (fun h => hb0 h.1))
            clear HDA HDB
            go_wp2_with fail
            go_roundw
            case rel => exact ⟨k + 1, f', _, _, C2, gl, by go_num, by rw [HP2.out]; omega, by rw [HP2.out]; omega, by rw [HP2.out]; exact hcl, HDC, by unfold Hid; rw [HP2.out, HQ.out]; exact HG.out, HXC2, HS8⟩
            case measure => rw [HLEN8.out, HLEN.out]; simp [intOf]; omega
      · obtain rfl : k = p := by omega
        have HD2 : Hid (drpZ a r (cl0, gl0) = (cl, gl)) := by
          unfold Hid
          rw [HD.out]
          exact drpS_none a r (cl, gl) f k (fun j h1 h2 => by dsimp only at h2; rw [HP.out] at h2; omega)
        have r0 := HS.out.res.two.1; have r1 := HS.out.res.two.2
        have r2 := HS.out.res.free 0; have r3 := HS.out.res.free 1
        go_wp2
        have v1 := HS.out.res.put2 (.slice ad1 k k1) (.slice ad2 q k2)
        have e0 := v1.two.1; have e1 := v1.two.2
        refine bodyPost_ret (v := .agg #[.slice ad1 k k1, .slice ad2 q k2]) (by simp [results, Try.results24, go_sem, e0, e1]) rfl ?_
        refine ⟨_, _, rfl, ?_, (HS.out.low.setCell (p := ⟨w.heap.size + 1, 0, none⟩) (Nat.le_succ _) _).setCell (p := ⟨w.heap.size + 1, 1, none⟩) (Nat.le_succ _) _⟩
        rw [HD2.out]
        exact ⟨((HS.out.rc.set (.inr rfl) 0 _).set (.inr rfl) 1 _).rd, ((HS.out.rg.set (.inr rfl) 0 _).set (.inr rfl) 1 _).rd⟩

end Go.Proofs.Ytjmggphnngffjaa

/- Same of warderref22: of two zones that are the same, wherever they lie. -/
namespace Go.Proofs.Ytjmggphnngffjaa
open Go.RowKit

set_option maxRecDepth 100000 in
set_option maxHeartbeats 2000000 in
/-- Same, where both are the same -/
theorem zsameI_eq (v1 v2 u1 u2 : Value) (cl : List (Int × Int)) (gl : List Int) (w : World) (h1 : ZoneIn w v1 v2 cl gl) (h2 : ZoneIn w u1 u2 cl gl) (hcl : cl.length ≤ 65536) (hgl : gl.length ≤ 65536) :
    Calls Try.prog 23 #[.agg #[v1, v2], .agg #[u1, u2]] w fun e w' => e = .returned (.bool true) ∧ Below w.heap.size w w' := by
  have x2 := (Box2.new w v1 v2).alloc (.cells #[u1, u2] 45)
  have x3 := Box2.new (w.alloc (.cells #[v1, v2] 45)) u1 u2
  simp only [World.size_alloc] at x3
  have hb0 : Below w.heap.size w ((w.alloc (.cells #[v1, v2] 45)).alloc (.cells #[u1, u2] 45)) := ((Below.refl _ w).alloc (Nat.le_refl _) _).alloc (by simp) _
  have hs0 : ((w.alloc (.cells #[v1, v2] 45)).alloc (.cells #[u1, u2] 45)).heap.size = w.heap.size + 2 := by simp
  have z1 := h1.below hb0
  have z2 := h2.below hb0
  obtain ⟨a1, k1, e1⟩ := h1.1.len
  obtain ⟨a2, k2, e2⟩ := h1.2.len
  obtain ⟨a3, k3, e3⟩ := h2.1.len
  obtain ⟨a4, k4, e4⟩ := h2.2.len
  obtain ⟨n, hn⟩ : ∃ n, cl.length = n := ⟨_, rfl⟩
  obtain ⟨m, hm⟩ : ∃ m, gl.length = m := ⟨_, rfl⟩
  have HN := Lib.hid hn; have HM := Lib.hid hm
  rw [hn] at e1 e3 hcl; rw [hm] at e2 e4 hgl
  subst e1; subst e2; subst e3; subst e4
  have X2 := Lib.hid x2; have X3 := Lib.hid x3; have Z1 := Lib.hid z1; have Z2 := Lib.hid z2; have HB0 := Lib.hid hb0
  clear x2 x3 z1 z2 hb0 h1 h2 hn hm
  go_enter Try.func23, Try.ntmps23
  go_wp2
  obtain ⟨W0, hW0⟩ : ∃ W0, ((w.alloc (.cells #[.slice a1 n k1, .slice a2 m k2] 45)).alloc (.cells #[.slice a3 n k3, .slice a4 m k4] 45)) = W0 := ⟨_, rfl⟩
  rw [hW0] at X2 X3 Z1 Z2 HB0 hs0 ⊢
  clear hW0
  go_loopw [5] (fun i wr => ∃ k : Nat, i = .int .i64 k ∧ k ≤ n ∧ Hid (Below W0.heap.size W0 wr)) (fun i _ => n - (intOf i).toNat)
  case atStart => exact ⟨0, rfl, Nat.zero_le _, Below.refl _ _⟩
  case round =>
    obtain ⟨k, rfl, hk, hb⟩ := hrel
    have x2 : Box2 wr w.heap.size _ _ := (hb.out.block _ X2.out.lt).trans X2.out
    have x3 : Box2 wr (w.heap.size + 1) _ _ := (hb.out.block _ X3.out.lt).trans X3.out
    have c20 := x2.c0; have c21 := x2.c1; have c30 := x3.c0; have c31 := x3.c1
    by_cases hlt : k < n
    · have p1 : (k : Int) < (n : Int) := by omega
      have hkl : k < cl.length := by rw [HN.out]; exact hlt
      obtain ⟨x, hx⟩ : ∃ x, cl[k]? = some x := ⟨_, List.getElem?_eq_getElem hkl⟩
      obtain ⟨xa, xb⟩ := x
      have y1 := Z1.out.1.below hb.out; have y2 := Z2.out.1.below hb.out
      rw [HN.out] at y1 y2
      obtain ⟨g, o, t1, _, d1, d2⟩ := y1.cls hx (by omega)
      obtain ⟨g', o', t2, _, d3, d4⟩ := y2.cls hx (by omega)
      cases t1; cases t2
      clear hx x2 x3 y1 y2
      go_wp2
      go_quiet (fail)
      go_wp2
      go_roundw
      case rel => exact ⟨k + 1, by go_num, by omega, Lib.hid (below_drewN hb.out _)⟩
      case measure => simp [intOf]; omega
    · obtain rfl : k = n := by omega
      clear x2 x3 hlt
      go_wp2
      obtain ⟨W1, rfl⟩ : ∃ W1, W1 = wr := ⟨_, rfl⟩
      go_loopw [6] (fun i wr => ∃ j : Nat, i = .int .i64 j ∧ j ≤ m ∧ Hid (Below W0.heap.size W0 wr)) (fun i _ => m - (intOf i).toNat)
      case atStart => exact ⟨0, rfl, Nat.zero_le _, hb⟩
      case round =>
        clear c20 c21 c30 c31 hb
        obtain ⟨j, rfl, hj, hb⟩ := hrel
        have x2 : Box2 wr w.heap.size _ _ := (hb.out.block _ X2.out.lt).trans X2.out
        have x3 : Box2 wr (w.heap.size + 1) _ _ := (hb.out.block _ X3.out.lt).trans X3.out
        have c20 := x2.c0; have c21 := x2.c1; have c30 := x3.c0; have c31 := x3.c1
        by_cases hlt : j < m
        · have p1 : (j : Int) < (m : Int) := by omega
          have hkl : j < gl.length := by rw [HM.out]; exact hlt
          obtain ⟨x, hx⟩ : ∃ x, gl[j]? = some x := ⟨_, List.getElem?_eq_getElem hkl⟩
          have cx : (ints gl)[j]? = some (.int .i64 x) := by simp [ints, hx]
          have y1 := Z1.out.2.below hb.out; have y2 := Z2.out.2.below hb.out
          rw [HM.out] at y1 y2
          obtain ⟨g, o, t1, _, hc1⟩ := y1.at (by omega)
          obtain ⟨g', o', t2, _, hc2⟩ := y2.at (by omega)
          cases t1; cases t2
          have d1 := hc1 _ _ cx
          have d3 := hc2 _ _ cx
          clear cx hx x2 x3 y1 y2 hc1 hc2
          go_wp2
          go_quiet (fail)
          go_wp2
          go_roundw
          case rel => exact ⟨j + 1, by go_num, by omega, Lib.hid (below_drewN hb.out _)⟩
          case measure => simp [intOf]; omega
        · obtain rfl : j = m := by omega
          have HF := Lib.hid (HB0.out.trans (hb.out.mono HB0.out.size))
          clear x2 x3 hlt
          go_wp2
          go_ret
          exact ⟨rfl, HF.out⟩

end Go.Proofs.Ytjmggphnngffjaa

/- The law PutBack. -/
namespace Go.Proofs.Ytjmggphnngffjaa
open Go.RowKit Go.Shelf

/-- how the zone without lies while its gaps are clipped -/
structure LS (w : World) (v1 gv : Value) (gs : List Int) (W : World) : Prop where
  box : Blk W w.heap.size #[v1, gv] 45
  row : W.ownsRow (w.heap.size + 1) 3 1 gv gs.length (ints gs)
  low : Below w.heap.size w W
theorem LS.below {w W W' : World} {v1 gv : Value} {gs : List Int} (h : LS w v1 gv gs W) (hb : Below W.heap.size W W') : LS w v1 gv gs W' :=
  ⟨h.box.keep hb, owns_below h.row hb, h.low.trans (hb.mono h.low.size)⟩
theorem LS.facts {w W : World} {v1 gv : Value} {gs : List Int} (h : LS w v1 gv gs W) : W.cell? ⟨w.heap.size, 0, none⟩ = some v1 ∧ W.cell? ⟨w.heap.size, 1, none⟩ = some gv ∧ W.frozen? ⟨w.heap.size, 1, none⟩ = false ∧ w.heap.size < W.heap.size :=
  ⟨h.box.two.1, h.box.two.2, h.box.free 1, h.box.lt⟩
theorem LS.cell {w W W' : World} {v1 gv : Value} {gs : List Int} (h : LS w v1 gv gs W) (hg : W.grownBy W' gv.ownBlock) :
    W'.cell? ⟨w.heap.size, 1, none⟩ = some gv ∧ W'.frozen? ⟨w.heap.size, 1, none⟩ = false ∧ w.heap.size < W'.heap.size := by
  have b := h.box.grown hg (h.box.row_ne h.row (by decide))
  exact ⟨b.two.2, b.free 1, b.lt⟩
theorem LS.app {w W W' : World} {v1 gv gv' : Value} {gs : List Int} {y : Int} (h : LS w v1 gv gs W) (ho : W'.ownsRow (w.heap.size + 1) 3 1 gv' (gs.length + 1) (ints gs ++ ints [y])) (hg : W.grownBy W' gv.ownBlock) :
    LS w v1 gv' (gs ++ [y]) (W'.setCell ⟨w.heap.size, 1, none⟩ gv') := by
  have b := h.box.grown hg (h.box.row_ne h.row (by decide))
  refine ⟨b.store 1 _, ?_, (h.low.grown hg h.low.size (fun k hk => by have := (h.row.lt k hk).1; omega)).setCell (p := ⟨w.heap.size, 1, none⟩) (Nat.le_refl _) _⟩
  rw [List.length_append, show ints (gs ++ [y]) = ints gs ++ ints [y] by simp [ints]]
  exact ownsRow_setCell_other ho (b.row_ne ho (by decide)) _

set_option maxRecDepth 100000 in
set_option maxHeartbeats 8000000 in
theorem putBack_any {w : World} {v1 v2 vc : Value} {cl : List (Int × Int)} {gl consts : List Int} (n r : Int) (hz : ZoneIn w v1 v2 cl gl) (hxb : ∀ c ∈ cl, ClsOK c) (hgb : ∀ g ∈ gl, In64 g) (hvc : Reads w vc (ints consts)) (hci : ∀ x ∈ consts, In64 x) :
    Calls Try.prog 5 #[.agg #[v1, v2], vc, .agg #[.int .i64 n, .int .i64 r]] w fun e w' => e = .returned (.bool true) ∧ Below w.heap.size w w' := by
  obtain ⟨ad1, k1, e1⟩ := hz.1.len
  obtain ⟨ad2, k2, e2⟩ := hz.2.len
  obtain ⟨ad3, k3, e3, -⟩ := hvc.len
  obtain ⟨p, hp⟩ : ∃ n, cl.length = n := ⟨_, rfl⟩
  obtain ⟨q, hq⟩ : ∃ m, gl.length = m := ⟨_, rfl⟩
  obtain ⟨t, ht⟩ : ∃ t, consts.length = t := ⟨_, rfl⟩
  rw [hp] at e1; rw [hq] at e2; rw [ints_len, ht] at e3
  subst e1; subst e2; subst e3
  obtain ⟨W1, hW1⟩ : ∃ W1, w.alloc (.cells #[.slice ad1 p k1, .slice ad2 q k2] 45) = W1 := ⟨_, rfl⟩
  have hs1 : W1.heap.size = w.heap.size + 1 := by rw [← hW1]; simp
  obtain ⟨W2, hW2⟩ : ∃ W2, W1.alloc (.cells #[.int .i64 n, .int .i64 r] 36) = W2 := ⟨_, rfl⟩
  have hb2 : Below w.heap.size w W2 := by rw [← hW2, ← hW1]; exact ((Below.refl _ w).alloc (Nat.le_refl _) _).alloc (by simp) _
  have x1 : Blk W2 w.heap.size #[.slice ad1 p k1, .slice ad2 q k2] 45 := by rw [← hW2, ← hW1]; exact (Blk.new _ _ _).alloc _
  have x2 : Blk W2 (w.heap.size + 1) #[.int .i64 n, .int .i64 r] 36 := by rw [← hW2, ← hs1]; exact Blk.new _ _ _
  have c0 := x1.two.1; have c1 := x1.two.2; have c2 := x2.two.1; have c3 := x2.two.2
  have HZ := Lib.hid hz; have HXB := Lib.hid hxb; have HGB := Lib.hid hgb; have HVC := Lib.hid hvc; have HCI := Lib.hid hci
  have HP := Lib.hid hp; have HQ := Lib.hid hq; have HT := Lib.hid ht; have HX1 := Lib.hid x1; have HB2 := Lib.hid hb2
  clear hz hxb hgb hvc hci hp hq ht x1 x2 hb2
  go_enter Try.func5, Try.ntmps5
  go_wp2
  go_quiet (fail)
  obtain ⟨wd, hwd⟩ : ∃ W, W2.drewN nq = W := ⟨_, rfl⟩
  have HBD := Lib.hid (show Below w.heap.size w wd by rw [← hwd]; exact below_drewN HB2.out nq)
  have HXD := Lib.hid (show Blk wd w.heap.size #[.slice ad1 p k1, .slice ad2 q k2] 45 by rw [← hwd]; exact HX1.out)
  rw [hwd]
  clear hwd c0 c1 c2 c3 HX1 HB2
  have c0 := HXD.out.two.1; have c1 := HXD.out.two.2
  have HG := Lib.hid (great_any (HZ.out.below HBD.out))
  rw [HP.out, HQ.out] at HG
  go_wp2_with fail
  refine HG.out.mono ?_
  rintro e w2 ⟨rfl, hb2⟩
  have HX2 := Lib.hid (HXD.out.keep hb2)
  have HB2 := Lib.hid (HBD.out.trans (hb2.mono HBD.out.size))
  clear hb2 c0 c1 HXD HBD HG
  have c0 := HX2.out.two.1; have c1 := HX2.out.two.2
  obtain ⟨gr, hgr⟩ : ∃ gr, (decide (40 < p) || decide (40 < q)) = gr := ⟨_, rfl⟩
  have HGR := Lib.hid hgr
  rw [hgr]
  clear hgr
  cases gr
  rotate_left
  · go_wp2_with fail
    refine (awake24 _).mono ?_
    rintro e w7 ⟨rfl, hb7⟩
    have HF := Lib.hid (HB2.out.trans (hb7.mono HB2.out.size))
    clear hb7
    go_wp2
    go_ret
    exact ⟨rfl, HF.out⟩
  have hpq : p ≤ 40 ∧ q ≤ 40 := by have := HGR.out; simp at this; exact this
  obtain ⟨hp40, hq40⟩ := hpq
  clear HGR
  by_cases ht1 : 10 < t
  · have hti : (10 : Int) < (t : Int) := by omega
    go_wp2_with fail
    refine (awake24 _).mono ?_
    rintro e w7 ⟨rfl, hb7⟩
    have HF := Lib.hid (HB2.out.trans (hb7.mono HB2.out.size))
    clear hb7
    go_wp2
    go_ret
    exact ⟨rfl, HF.out⟩
  have hti : ¬ (10 : Int) < (t : Int) := by omega
  by_cases hr1 : r < 1
  · go_wp2_with fail
    refine (awake24 _).mono ?_
    rintro e w7 ⟨rfl, hb7⟩
    have HF := Lib.hid (HB2.out.trans (hb7.mono HB2.out.size))
    clear hb7
    go_wp2
    go_ret
    exact ⟨rfl, HF.out⟩
  by_cases hr4 : 4 < r
  · go_wp2_with fail
    refine (awake24 _).mono ?_
    rintro e w7 ⟨rfl, hb7⟩
    have HF := Lib.hid (HB2.out.trans (hb7.mono HB2.out.size))
    clear hb7
    go_wp2
    go_ret
    exact ⟨rfl, HF.out⟩
  by_cases hn20 : 20 < n
  · go_wp2_with fail
    refine (awake24 _).mono ?_
    rintro e w7 ⟨rfl, hb7⟩
    have HF := Lib.hid (HB2.out.trans (hb7.mono HB2.out.size))
    clear hb7
    go_wp2
    go_ret
    exact ⟨rfl, HF.out⟩
  have hkr : kap r ≤ 1000 := by
    have : (2 : Nat) ^ kapE r ≤ 2 ^ 4 := Nat.pow_le_pow_right (by omega) (by unfold kapE; omega)
    unfold kap; omega
  have hkr' : kap (r - 1) ≤ 1000 := by
    have : (2 : Nat) ^ kapE (r - 1) ≤ 2 ^ 4 := Nat.pow_le_pow_right (by omega) (by unfold kapE; omega)
    unfold kap; omega
  have HK' := Lib.hid hkr'
  have HCK := Lib.hid (rcheck_any n r (HZ.out.below HB2.out) (HVC.out.below (Nat.le_refl _) HB2.out) (by rw [HP.out]; omega) (by rw [HQ.out]; omega) HXB.out HGB.out (by rw [HT.out]; omega) HCI.out hkr)
  obtain ⟨ck, hck⟩ : ∃ ck, checkZ cl gl n (sortS consts) r = ck := ⟨_, rfl⟩
  have HCKZ := Lib.hid hck
  rw [hck] at HCK
  clear hck hkr hkr'
  go_wp2_with fail
  refine HCK.out.mono ?_
  rintro e w3 ⟨rfl, hb3⟩
  have HX3 := Lib.hid (HX2.out.keep hb3)
  have HB3 := Lib.hid (HB2.out.trans (hb3.mono HB2.out.size))
  clear hb3 c0 c1 HX2 HB2 HCK
  have c0 := HX3.out.two.1; have c1 := HX3.out.two.2
  cases ck
  · go_wp2_with fail
    refine (awake24 _).mono ?_
    rintro e w7 ⟨rfl, hb7⟩
    have HF := Lib.hid (HB3.out.trans (hb7.mono HB3.out.size))
    clear hb7
    go_wp2
    go_ret
    exact ⟨rfl, HF.out⟩
  have hbk := back_L cl gl (sortS consts) n r HCKZ.out (by omega) (by omega) (by omega)
  have hn0 : 0 ≤ n := ((check_parts _ _ _ _ _).1 HCKZ.out).1.1
  have HBK := Lib.hid hbk
  have HPU := Lib.hid (putZ_any (a := n) (r := r) (HZ.out.below HB3.out) (by rw [HP.out]; omega) (by omega))
  obtain ⟨L, hL⟩ : ∃ L, putL cl gl n r = L := ⟨_, rfl⟩
  rw [hL] at HBK HPU
  have hLl : L.length ≤ 100000 := by rw [← hL]; exact Nat.le_trans (putL_len cl gl n r (by rw [HP.out]; omega) (by omega)) (by decide)
  obtain ⟨N, hN⟩ : ∃ N, L.length = N := ⟨_, rfl⟩
  have HN := Lib.hid hN
  rw [hN] at hLl
  have hNp : 0 < N := by have := HBK.out.1; omega
  clear hL hN hbk
  go_wp2_with fail
  refine HPU.out.mono ?_
  rintro e w4 ⟨v4, rfl, hz4, hb4⟩
  obtain ⟨ad4, cap4, hv4⟩ := hz4.len
  rw [HN.out] at hv4
  subst hv4
  have HX4 := Lib.hid (HX3.out.keep hb4)
  have HB4 := Lib.hid (HB3.out.trans (hb4.mono HB3.out.size))
  have HZ4 := Lib.hid hz4
  clear hz4 hb4 c0 c1 HX3 HB3 HPU
  have c0 := HX4.out.two.1; have c1 := HX4.out.two.2
  have hw4 := HX4.out.lt
  have hwr : IntKind.i64.wrap (r - 1) = r - 1 := wrap_i64_in _ (by omega) (by omega)
  have hwn : IntKind.i64.wrap (n + 1) = n + 1 := wrap_i64_in _ (by omega) (by omega)
  have hls : LS w4 (.slice ad1 p k1) (.slice none 0 0) [] (w4.alloc (.cells #[.slice ad1 p k1, .slice none 0 0] 45)) :=
    ⟨Blk.new _ _ _, World.ownsRow_nil _ _ _ _, (Below.refl _ _).alloc (Nat.le_refl _) _⟩
  have HLS0 := Lib.hid hls
  clear hls
  go_wp2_with fail
  go_loopw [11] (fun i wr => ∃ k : Nat, k ≤ q ∧ i = .int .i64 k ∧ ∃ (x : Option Addr) (y : Nat), Hid (LS w4 (.slice ad1 p k1) (.slice x k y) (clipL (gl.take k) (r - 1)) wr)) (fun i _ => q - (intOf i).toNat)
  case atStart => exact ⟨0, Nat.zero_le _, rfl, none, 0, HLS0.out⟩
  case round =>
    clear HLS0
    obtain ⟨k, hk, rfl, x, y, HS⟩ := hrel
    have hx5 := HX4.out.low HS.out.low hw4
    have c0 := hx5.two.1; have c1 := hx5.two.2
    obtain ⟨d0, d1, d2, d3⟩ := HS.out.facts
    by_cases hlt : k < q
    · have hkn : (k : Int) < (q : Int) := by omega
      obtain ⟨g, hgk⟩ : ∃ g, gl[k]? = some g := ⟨_, List.getElem?_eq_getElem (by rw [HQ.out]; exact hlt)⟩
      have hga := ((HZ.out.below HB4.out).2).below HS.out.low
      rw [HQ.out] at hga
      obtain ⟨b', o', rfl, hbl, hcells⟩ := hga.at (by omega)
      have f0 : wr.cell? ⟨b', o' + k, none⟩ = some (.int .i64 g) := hcells _ _ (by unfold ints; rw [List.getElem?_map, hgk]; rfl)
      obtain ⟨gv, hgv⟩ : ∃ gv, klip g (r - 1) = gv := ⟨_, rfl⟩
      have HCT : Hid (clipL (gl.take (k + 1)) (r - 1) = clipL (gl.take k) (r - 1) ++ [gv]) := by unfold Hid; rw [clipL_take gl (r - 1) k g hgk, hgv]
      have HCP : Hid (Calls Try.prog 22 #[.int .i64 g, .int .i64 (r - 1)] wr.drew fun e w' => e = .returned (.int .i64 gv) ∧ wr.drew = w') := by rw [← hgv]; exact Lib.hid (rclip_any g (r - 1) wr.drew)
      have hls2 := HS.out.below (Below.refl _ _).drew
      have hba : Below wr.drew.heap.size wr.drew (wr.drew.alloc (.cells #[.int .i64 gv] 3)) := (Below.refl _ _).alloc (Nat.le_refl _) _
      have hls3 := LS.below (W := wr.drew) hls2 hba
      obtain ⟨h0, h1, h2, h3⟩ := hls3.facts
      have hx6 := HX4.out.low hls3.low hw4
      have i0 := hx6.two.1; have i1 := hx6.two.2
      have hlen : (clipL (gl.take k) (r - 1)).length = k := by rw [clipL_len, List.length_take, HQ.out]; omega
      have HLEN := Lib.hid hlen
      have hga2 := hga.below ((Below.refl _ wr).drew.trans hba)
      obtain ⟨_, _, eq, _, hc2⟩ := hga2.at (by omega)
      cases eq
      have f1 : (wr.drew.alloc (.cells #[.int .i64 gv] 3)).cell? ⟨b', o' + k, none⟩ = some (.int .i64 g) := hc2 _ _ (by unfold ints; rw [List.getElem?_map, hgk]; rfl)
      have HRD : Hid (RdK (wr.drew.alloc (.cells #[.int .i64 gv] 3)) 1 (.slice (some ⟨wr.drew.heap.size, 0, none⟩) 1 1) 1 (ints [gv])) := by
        refine ⟨_, _, rfl, rfl, .inr ⟨wr.drew.heap.size, 0, rfl, by simp, fun t x hx => ?_⟩⟩
        rw [World.cell?_alloc_at _ _ _ _ (by simp)]
        simpa [ints] using hx
      have HRO : Hid ((wr.drew.alloc (.cells #[.int .i64 gv] 3)).ownsRow (w4.heap.size + 1) 3 1 (.slice x k y) k (ints (clipL (gl.take k) (r - 1)))) := by
        have := hls3.row
        rw [hlen] at this
        exact this
      have HOA := Lib.hid hls3
      have hszA : w4.heap.size + 1 ≤ (wr.drew.alloc (.cells #[.int .i64 gv] 3)).heap.size := h3
      clear hls2 hls3 hba hgk hga hga2 hcells hc2 hgv hlen hx5 hx6
      go_upto_region 10 with fail
      go_region_law (first
        | (go_simp; go_at_call 22; (with_reducible refine HCP.out.mono ?_); rintro e w5 ⟨rfl, rfl⟩)
        | (refine step_appX (w := wr.drew.alloc (.cells #[.int .i64 gv] 3)) (by rfl) (.tmp 59) (.tmp 68) 39 (by rfl) 3 (.int .i64 0) 1 8 (w4.heap.size + 1) Try.underlying39 info_int rfl (by decide) (by decide) (.slice x k y) k (ints (clipL (gl.take k) (r - 1))) (by simp [Act.eval]) HRO.out 1 (ints [gv]) ⟨_, by simp [Act.eval], HRD.out⟩ (ints_one _) (by omega) hszA ?_
           intro v' w5 ho5 hg5
           have hos := LS.app (y := gv) (gv' := v') HOA.out (by rw [HLEN.out]; exact ho5) hg5
           obtain ⟨q0, q1, q2⟩ := HOA.out.cell hg5
           obtain ⟨x1', y1', hv'⟩ := owns_len ho5
           subst hv'
           have HOS := Lib.hid hos
           clear hos ho5 hg5))
      all_goals
        go_wp2_with fail
        go_roundw
        case rel => exact ⟨k + 1, by omega, by go_num, x1', y1', by rw [HCT.out]; exact HOS⟩
        case measure => simp [intOf]; omega
    · obtain rfl : k = q := by omega
      have hfull : gl.take k = gl := by rw [← HQ.out]; exact List.take_length
      rw [hfull] at HS
      obtain ⟨G, hG⟩ : ∃ G, clipL gl (r - 1) = G := ⟨_, rfl⟩
      have hGl : G.length = k := by rw [← hG, clipL_len, HQ.out]
      have HBK2 : Hid (∀ z ∈ L, checkZ z.1 z.2 (n + 1) (sortS consts) (r - 1) = true ∧ drpZ n (r - 1) z = (cl, G) ∧ z.1.length ≤ cl.length + 1) := by
        unfold Hid; rw [← hG]; exact HBK.out.2
      rw [hG] at HS
      have HGL := Lib.hid hGl
      clear hG hGl hfull hx5
      go_wp2_with fail
      obtain ⟨Wc, rfl⟩ : ∃ Wc, Wc = wr := ⟨_, rfl⟩
      clear c0 c1 d0 d1 d2
      have HXC := Lib.hid (HX4.out.low HS.out.low hw4)
      have HZC := Lib.hid (HZ4.out.below HS.out.low)
      have HBC := Lib.hid (HB4.out.trans (HS.out.low.mono HB4.out.size))
      go_loopw [12] (fun i wr => ∃ j : Nat, j ≤ N ∧ i = .int .i64 j ∧ Hid (Below Wc.heap.size Wc wr)) (fun i _ => N - (intOf i).toNat)
      case atStart => exact ⟨0, Nat.zero_le _, rfl, Below.refl _ _⟩
      case round =>
        obtain ⟨j, hj, rfl, HB⟩ := hrel
        by_cases hlt2 : j < N
        · have hjn : (j : Int) < (N : Int) := by omega
          have hjz : (0 : Int) ≤ (j : Int) := by omega
          obtain ⟨z, hzk⟩ : ∃ z, L[j]? = some z := ⟨_, List.getElem?_eq_getElem (by rw [HN.out]; exact hlt2)⟩
          obtain ⟨hchk, hdrp, hzl⟩ := HBK2.out z (List.mem_of_getElem? hzk)
          obtain ⟨z1, z2⟩ := z
          dsimp only at hchk hdrp hzl
          obtain ⟨-, -, ha4, ha5, ha6, ha7, -⟩ := (check_parts _ _ _ _ _).1 hchk
          obtain ⟨g, c1v, c2v, hge, hNl, f0, f1, hzz⟩ := HZC.out.at hzk
          cases hge
          have hzb := cls_bd z1 ha4
          rw [HP.out] at hzl
          have hzc : ∀ c ∈ z1, ClsOK c := fun c hc => by
            obtain ⟨⟨b1, b2⟩, b3, b4⟩ := hzb c hc
            exact ⟨⟨by omega, by omega⟩, ⟨by omega, by omega⟩⟩
          have hzg : ∀ g ∈ z2, In64 g := fun g hg => by
            unfold gapsOK at ha7
            have := List.all_eq_true.1 ha7 g hg
            simp at this
            have h2 := HK'.out
            exact ⟨by omega, by omega⟩
          have HCH : Hid (∀ W, Below wr.heap.size wr W → Calls Try.prog 21 #[.agg #[c1v, c2v], .int .i64 (n + 1), .slice ad3 t k3, .int .i64 (r - 1)] W fun e w' => e = .returned (.bool true) ∧ Below W.heap.size W w') := by
            intro W hW
            rw [← hchk]
            exact rcheck_any (n + 1) (r - 1) (((ZoneIn.of_at hzz).below HB.out).below hW) (((HVC.out.below (Nat.le_refl _) HBC.out).below (Nat.le_refl _) HB.out).below (Nat.le_refl _) hW) (by omega) (by rw [ha6]; omega) hzc hzg (by rw [HT.out]; omega) HCI.out HK'.out
          have HDR : Hid (∀ W, Below wr.heap.size wr W → Calls Try.prog 24 #[.agg #[c1v, c2v], .int .i64 n, .int .i64 (r - 1)] W fun e w' => ∃ u1 u2, e = .returned (.agg #[u1, u2]) ∧ ZoneIn w' u1 u2 cl G ∧ Below W.heap.size W w') := by
            intro W hW
            have h := rdrop23_any (cl0 := z1) (gl0 := z2) n (r - 1) (((ZoneIn.of_at hzz).below HB.out).below hW) ha6 (by omega) hzc
            rw [hdrp] at h
            exact h
          have HSM : Hid (∀ W, Below wr.heap.size wr W → ZoneIn W (.slice ad1 p k1) (.slice x k y) cl G) := by
            intro W hW
            have h1 := (((HZ.out.below HBC.out).below HB.out).below hW).1
            have h2 := RdK.of_owns (owns_below (owns_below HS.out.row HB.out) hW)
            exact ⟨h1, h2⟩
          have HSF : Hid (∀ W, Below wr.heap.size wr W → W.cell? ⟨g, j * 2, none⟩ = some c1v ∧ W.cell? ⟨g, j * 2 + 1, none⟩ = some c2v ∧ W.cell? ⟨w4.heap.size, 0, none⟩ = some (.slice ad1 p k1) ∧ W.cell? ⟨w4.heap.size, 1, none⟩ = some (.slice x k y)) := by
            intro W hW
            obtain ⟨_, _, _, hge, _, f2, f3, hzz2⟩ := ((HZC.out.below HB.out).below hW).at hzk
            cases hge
            obtain ⟨d0, d1, -, -⟩ := ((HS.out.below HB.out).below hW).facts
            obtain ⟨_, _, _, hge, _, f4, f5, _⟩ := HZC.out.at hzk
            cases hge
            have key : ∀ o, Wc.cell? ⟨g, o, none⟩ ≠ none → W.cell? ⟨g, o, none⟩ = Wc.cell? ⟨g, o, none⟩ := fun o ho => by
              have hl := World.block_lt_of_cell? Wc ⟨g, o, none⟩ (Option.some_get (Option.isSome_iff_ne_none.2 ho)).symm
              exact ((HB.out.trans (hW.mono HB.out.size)).cell (p := ⟨g, o, none⟩) hl)
            refine ⟨?_, ?_, d0, d1⟩
            · rw [key _ (by rw [f0]; simp), f0]
            · rw [key _ (by rw [f1]; simp), f1]
          obtain ⟨e0, e1, e2, e3⟩ := HSF.out wr (Below.refl _ _)
          have hbz : Below wr.heap.size wr wr.drew := (Below.refl _ _).drew
          have HCLS : Hid (cl.length ≤ 65536 ∧ G.length ≤ 65536) := by unfold Hid; rw [HP.out, HGL.out]; omega
          clear hzk hchk hdrp hzl ha4 ha5 ha6 ha7 hzb hzc hzg f0 f1 hzz hNl
          go_upto_region 14 with fail
          go_cut [100] from 71 to 100 (fun v100 wx => v100 = .bool false ∧ Hid (Below wr.heap.size wr wx))
          case first =>
            go_region_held3 (fun w' => w'.cell? ⟨g, j * 2, none⟩ = some c1v ∧ w'.cell? ⟨g, j * 2 + 1, none⟩ = some c2v ∧ w'.cell? ⟨w4.heap.size, 0, none⟩ = some (.slice ad1 p k1) ∧ w'.cell? ⟨w4.heap.size, 1, none⟩ = some (.slice x k y))
                (first | exact HSF.out _ (by assumption) | go_keep)
                (first
                  | (go_simp; go_at_call 21; (with_reducible refine (HCH.out _ (by assumption)).mono ?_)
                     rintro e w5 ⟨rfl, hbs⟩
                     have hbz := hbz.trans (hbs.mono hbz.size)
                     clear hbs)
                  | (go_simp; go_at_call 24; (with_reducible refine (HDR.out _ (by assumption)).mono ?_)
                     rintro e w6 ⟨u1, u2, rfl, hzd, hbs⟩
                     have hbz := hbz.trans (hbs.mono hbz.size)
                     clear hbs)
                  | (go_simp; go_at_call 23; (with_reducible refine (zsameI_eq _ _ _ _ cl G _ hzd (HSM.out _ (by assumption)) HCLS.out.1 HCLS.out.2).mono ?_)
                     rintro e w7 ⟨rfl, hbs⟩
                     have hbz := hbz.trans (hbs.mono hbz.size)
                     clear hbs hzd))
            all_goals
              go_wp2_with fail
              go_meet
              exact ⟨rfl, Lib.hid hbz⟩
          case rest =>
            clear HCH HDR HSM HSF hbz e0 e1 e2 e3
            obtain ⟨rfl, HB'⟩ := hcut
            have HB2 := Lib.hid (HB.out.trans (HB'.out.mono HB.out.size))
            clear HB'
            go_wp2_with fail
            go_roundw
            case rel => exact ⟨j + 1, by omega, by go_num, HB2⟩
            case measure => simp [intOf]; omega
        · obtain rfl : j = N := by omega
          have hNi : (0 : Int) < (j : Int) := by omega
          have HBE := Lib.hid (HBC.out.trans (HB.out.mono HBC.out.size))
          go_wp2_with fail
          refine (awake24 _).mono ?_
          rintro e w7 ⟨rfl, hb7⟩
          have HF := Lib.hid (HBE.out.trans (hb7.mono HBE.out.size))
          clear hb7
          go_wp2
          go_ret
          exact ⟨rfl, HF.out⟩

end Go.Proofs.Ytjmggphnngffjaa
