/- Zones with an attribute more are those of all numbers that it may have: plain. Zones with an attribute more are each told once: plain. Zones with an attribute more are those of all numbers: plain, the numbers. -/
import Derived.Test.YtkkoooagamadjaaGreatDoorPk17
import Derived.Test.YtkkoooagamadjaaGreatDoorPk23
import Derived.Test.YtkkoooagamadjaaGreatDoorPk21

namespace Go.Proofs.YtkkoooagamadjaaGreatDoor
open Go.RowKit

theorem nil_or_snoc (L : List Int) : L = [] ∨ ∃ P b, L = P ++ [b] := by
  rcases List.eq_nil_or_concat L with h | ⟨P, b, h⟩
  · exact .inl h
  · exact .inr ⟨P, b, by rw [h, List.concat_eq_append]⟩
theorem gap_klip (b y r : Int) : gapZ b y (kap r) = klip (y - b - 1) r := by unfold gapZ klip; omega
theorem gap_bd (a b : Int) (h : Nat) : 0 ≤ gapZ a b h ∧ gapZ a b h ≤ h := by unfold gapZ; omega
theorem mem_outL (r g : Int) (h1 : 1 ≤ r) : g ∈ outL r ↔ 0 ≤ g ∧ g ≤ kap (r - 1) := by
  unfold outL
  rw [if_neg (by omega), List.mem_map]
  constructor
  · rintro ⟨i, hi, rfl⟩
    rw [List.mem_range] at hi
    omega
  · intro ⟨h2, h3⟩
    exact ⟨g.toNat, List.mem_range.2 (by omega), by omega⟩
theorem clipL_zone (L : List Int) (r : Int) : clipL (gapsZ (kap r) L) (r - 1) = gapsZ (kap (r - 1)) L := clip_zone L r

/-- a zone with the attribute alone between P and R -/
def betZ (c0 : Int → Int × Int) (a : Int) (h : Int) (P R : List Int) (x : Int) : Zn := (P.map c0 ++ [(bitZ a, -1)] ++ R.map c0, gapsZ h (P ++ x :: R))

theorem own_head (c0 : Int → Int × Int) (a r x y : Int) (T : List Int) :
    ownZ ((y :: T).map c0) (gapsZ (kap r) (y :: T)) a r 0 0 0 [gapZ x y (kap (r - 1))] = betZ c0 a (kap (r - 1)) [] (y :: T) x := by
  unfold ownZ betZ
  refine Prod.ext ?_ ?_
  · simp [ownC]
  · show repG (clipL _ (r - 1)) 0 0 _ = _
    rw [clipL_zone]
    simp [repG, gapsZ]
theorem own_tail (c0 : Int → Int × Int) (a r x b : Int) (P : List Int) (n : Nat) (hn : n = P.length + 1) :
    ownZ ((P ++ [b]).map c0) (gapsZ (kap r) (P ++ [b])) a r n (n - 1) (n - 1) [gapZ b x (kap (r - 1))] = betZ c0 a (kap (r - 1)) (P ++ [b]) [] x := by
  subst hn
  unfold ownZ betZ
  have hl : (gapsZ (kap (r - 1)) (P ++ [b])).length = P.length := by rw [gapsZ_len]; simp
  refine Prod.ext ?_ ?_
  · show ownC _ a _ = _
    unfold ownC
    rw [List.take_of_length_le (by simp), List.drop_eq_nil_of_le (by simp)]
    simp
  · show repG (clipL _ (r - 1)) _ _ _ = _
    rw [clipL_zone]
    unfold repG
    rw [List.take_of_length_le (by rw [hl]; omega), List.drop_eq_nil_of_le (by rw [hl]; omega), List.append_nil]
    exact (gapsZ_snoc _ P b x).symm
theorem own_mid (c0 : Int → Int × Int) (a r x b y : Int) (P T : List Int) (i : Nat) (hi : i = P.length) :
    ownZ ((P ++ b :: y :: T).map c0) (gapsZ (kap r) (P ++ b :: y :: T)) a r (i + 1) i (i + 1) [gapZ b x (kap (r - 1)), gapZ x y (kap (r - 1))] = betZ c0 a (kap (r - 1)) (P ++ [b]) (y :: T) x := by
  subst hi
  unfold ownZ betZ
  have hl : (gapsZ (kap (r - 1)) (P ++ [b])).length = P.length := by rw [gapsZ_len]; simp
  refine Prod.ext ?_ ?_
  · show ownC _ a _ = _
    unfold ownC
    have e1 : (P ++ b :: y :: T).map c0 = (P ++ [b]).map c0 ++ (y :: T).map c0 := by simp
    rw [e1, List.take_left' (by simp), List.drop_left' (by simp)]
  · show repG (clipL _ (r - 1)) _ _ _ = _
    rw [clipL_zone, gapsZ_app]
    unfold repG
    rw [List.take_left' hl]
    have e2 : gapsZ (kap (r - 1)) (P ++ [b]) ++ gapZ b y (kap (r - 1)) :: gapsZ (kap (r - 1)) (y :: T) = (gapsZ (kap (r - 1)) (P ++ [b]) ++ [gapZ b y (kap (r - 1))]) ++ gapsZ (kap (r - 1)) (y :: T) := by simp
    rw [e2, List.drop_left' (by simp [hl])]
    have e3 : P ++ [b] ++ x :: y :: T = P ++ b :: x :: y :: T := by simp
    show _ = gapsZ _ (P ++ [b] ++ x :: y :: T)
    rw [e3, gapsZ_app]
    simp [gapsZ]

/-- which splits two numbers leave for a third one -/
theorem spl_gap (r b y : Int) (h1 : 1 ≤ r) (h2 : r ≤ 20) (hby : b < y) (s : Int × Int) : s ∈ splP (gapZ b y (kap r)) r ↔ ∃ x, b < x ∧ x < y ∧ s = (gapZ b x (kap (r - 1)), gapZ x y (kap (r - 1))) := by
  rw [gap_klip, spl_true_mem _ _ h1 h2 (by omega)]
  obtain ⟨g, hg⟩ : ∃ g : Nat, y - b - 1 = g := ⟨(y - b - 1).toNat, by omega⟩
  rw [hg, truP_mem, List.mem_map]
  constructor
  · rintro ⟨t, ht, rfl⟩
    rw [List.mem_range] at ht
    refine ⟨b + 1 + t, by omega, by omega, ?_⟩
    unfold ptP P.lim gapZ
    refine Prod.ext ?_ ?_ <;> simp only <;> omega
  · rintro ⟨x, hx1, hx2, rfl⟩
    refine ⟨(x - b - 1).toNat, List.mem_range.2 (by omega), ?_⟩
    unfold ptP P.lim gapZ
    refine Prod.ext ?_ ?_ <;> simp only <;> omega

/-- between all numbers: it is told -/
theorem bet_mem (c0 : Int → Int × Int) (a r x : Int) (h1 : 1 ≤ r) (h2 : r ≤ 20) (P R : List Int) (hs : (P ++ x :: R).Pairwise (· < ·)) : betZ c0 a (kap (r - 1)) P R x ∈ putA ((P ++ R).map c0) (gapsZ (kap r) (P ++ R)) a r := by
  rcases nil_or_snoc P with rfl | ⟨P, b, rfl⟩
  · cases R with
    | nil =>
      unfold putA
      rw [if_pos (by simp)]
      refine List.mem_singleton.2 ?_
      simp [ownZ, ownC, betZ, repG, clipL, gapsZ]
    | cons y T =>
      unfold putA
      rw [if_neg (by simp)]
      refine List.mem_append_left _ (List.mem_append_left _ (List.mem_map.2 ⟨gapZ x y (kap (r - 1)), ?_, own_head c0 a r x y T⟩))
      rw [List.mem_reverse, mem_outL _ _ h1]
      exact gap_bd _ _ _
  · cases R with
    | nil =>
      unfold putA
      rw [if_neg (by simp)]
      refine List.mem_append_right _ (List.mem_map.2 ⟨gapZ b x (kap (r - 1)), ?_, ?_⟩)
      · rw [mem_outL _ _ h1]; exact gap_bd _ _ _
      · rw [List.append_nil]
        exact own_tail c0 a r x b P _ (by simp)
    | cons y T =>
      have e : P ++ [b] ++ y :: T = P ++ b :: y :: T := by simp
      have hb : b < x ∧ x < y := by
        rw [show P ++ [b] ++ x :: y :: T = P ++ (b :: x :: y :: T) by simp] at hs
        have := (List.pairwise_append.1 hs).2.1
        simp only [List.pairwise_cons, List.mem_cons] at this
        exact ⟨this.1 x (.inl rfl), this.2.1 y (.inl rfl)⟩
      rw [e]
      unfold putA
      rw [if_neg (by simp)]
      refine List.mem_append_left _ (List.mem_append_right _ (List.mem_flatMap.2 ⟨P.length, List.mem_range.2 (by simp), ?_⟩))
      unfold stepZ
      refine List.mem_cons_of_mem _ ?_
      rw [if_pos (by simp), List.mem_map]
      refine ⟨(gapZ b x (kap (r - 1)), gapZ x y (kap (r - 1))), ?_, own_mid c0 a r x b y P T _ rfl⟩
      have hg : (gapsZ (kap r) (P ++ b :: y :: T)).getD P.length 0 = gapZ b y (kap r) := by
        rw [gapsZ_app, List.getD_eq_getElem?_getD, List.getElem?_append_right (by rw [gapsZ_len]; simp)]
        simp [gapsZ_len]
      rw [hg, spl_gap r b y h1 h2 (by omega)]
      exact ⟨x, hb.1, hb.2, rfl⟩

/-- the attribute in a class -/
def withZ (c0 : Int → Int × Int) (a : Int) (h : Int) (P R : List Int) (x : Int) : Zn := (P.map c0 ++ [(putZ (c0 x).1 a true, (c0 x).2)] ++ R.map c0, gapsZ h (P ++ x :: R))
theorem in_with (c0 : Int → Int × Int) (a r x : Int) (P R : List Int) (i : Nat) (hi : i = P.length) :
    inCZ ((P ++ x :: R).map c0) (gapsZ (kap r) (P ++ x :: R)) a r i (((P ++ x :: R).map c0).getD i (0, 0)).1 (((P ++ x :: R).map c0).getD i (0, 0)).2 = withZ c0 a (kap (r - 1)) P R x := by
  subst hi
  have hg : ((P ++ x :: R).map c0).getD P.length (0, 0) = c0 x := by
    rw [List.getD_eq_getElem?_getD, List.map_append, List.getElem?_append_right (by simp)]
    simp
  unfold inCZ withZ
  rw [hg]
  refine Prod.ext ?_ ?_
  · show List.set _ _ _ = _
    rw [List.map_append, List.set_append_right _ _ (by simp)]
    simp
  · exact clipL_zone _ _
theorem with_mem (c0 : Int → Int × Int) (a r x : Int) (P R : List Int) : withZ c0 a (kap (r - 1)) P R x ∈ putA ((P ++ x :: R).map c0) (gapsZ (kap r) (P ++ x :: R)) a r := by
  unfold putA
  rw [if_neg (by simp)]
  refine List.mem_append_left _ (List.mem_append_right _ (List.mem_flatMap.2 ⟨P.length, List.mem_range.2 (by simp), ?_⟩))
  unfold stepZ
  rw [in_with c0 a r x P R _ rfl]
  exact List.mem_cons_self

/-- each zone that is told comes of a number, not too far out -/
theorem put_comes (c0 : Int → Int × Int) (a r lo hi : Int) (h1 : 1 ≤ r) (h2 : r ≤ 20) (L : List Int) (hs : L.Pairwise (· < ·)) (hb : ∀ x ∈ L, lo ≤ x ∧ x ≤ hi) (h0 : lo ≤ hi) (z : Zn) (hz : z ∈ putA (L.map c0) (gapsZ (kap r) L) a r) :
    (∃ P R x, L = P ++ x :: R ∧ z = withZ c0 a (kap (r - 1)) P R x) ∨ ∃ P R x, L = P ++ R ∧ (P ++ x :: R).Pairwise (· < ·) ∧ lo - (kap (r - 1) : Int) - 1 ≤ x ∧ x ≤ hi + (kap (r - 1) : Int) + 1 ∧ z = betZ c0 a (kap (r - 1)) P R x := by
  unfold putA at hz
  by_cases hn : L = []
  · subst hn
    rw [if_pos (by simp), List.mem_singleton] at hz
    refine .inr ⟨[], [], lo, rfl, by simp, by omega, by omega, ?_⟩
    rw [hz]
    simp [ownZ, ownC, betZ, repG, clipL, gapsZ]
  · have hlen : 0 < L.length := List.length_pos_iff.2 hn
    rw [if_neg (by simp; exact hn), List.mem_append, List.mem_append] at hz
    rcases hz with (hz | hz) | hz
    · obtain ⟨g, hg, rfl⟩ := List.mem_map.1 hz
      rw [List.mem_reverse, mem_outL _ _ h1] at hg
      obtain ⟨y, T, rfl⟩ := List.exists_cons_of_ne_nil hn
      have hy := hb y (by simp)
      refine .inr ⟨[], y :: T, y - 1 - g, rfl, ?_, by omega, by omega, ?_⟩
      · refine List.pairwise_cons.2 ⟨fun t ht => ?_, hs⟩
        rcases List.mem_cons.1 ht with rfl | ht
        · omega
        · have := (List.pairwise_cons.1 hs).1 t ht; omega
      · rw [← own_head]
        rw [show gapZ (y - 1 - g) y (kap (r - 1)) = g by unfold gapZ; omega]
    · obtain ⟨i, hi', hz⟩ := List.mem_flatMap.1 hz
      rw [List.mem_range, List.length_map] at hi'
      have hsp : L = L.take i ++ L[i] :: L.drop (i + 1) := by rw [← List.drop_eq_getElem_cons hi', List.take_append_drop]
      have hil : i = (L.take i).length := by rw [List.length_take]; omega
      obtain ⟨P, hP⟩ : ∃ P, L.take i = P := ⟨_, rfl⟩
      obtain ⟨R, hR⟩ : ∃ R, L.drop (i + 1) = R := ⟨_, rfl⟩
      obtain ⟨x, hx⟩ : ∃ x, L[i] = x := ⟨_, rfl⟩
      rw [hP, hR, hx] at hsp
      rw [hP] at hil
      unfold stepZ at hz
      rcases List.mem_cons.1 hz with rfl | hz
      · refine .inl ⟨P, R, x, hsp, ?_⟩
        rw [hsp]
        exact in_with c0 a r x P R i hil
      · split at hz
        · rename_i hlt
          rw [List.length_map] at hlt
          obtain ⟨s, hs', rfl⟩ := List.mem_map.1 hz
          cases R with
          | nil => rw [hsp] at hlt; simp at hlt; omega
          | cons y T =>
            have hg : (gapsZ (kap r) L).getD i 0 = gapZ x y (kap r) := by
              rw [hsp, gapsZ_app, List.getD_eq_getElem?_getD, List.getElem?_append_right (by rw [gapsZ_len]; simp; omega)]
              simp [gapsZ_len, hil]
            have hs2 := hs
            rw [hsp] at hs2
            have hxy : x < y := by
              have := (List.pairwise_append.1 hs2).2.1
              exact (List.pairwise_cons.1 this).1 y (by simp)
            rw [hg, spl_gap r x y h1 h2 hxy] at hs'
            obtain ⟨q, hq1, hq2, rfl⟩ := hs'
            have hxm := hb x (by rw [hsp]; simp)
            have hym := hb y (by rw [hsp]; simp)
            refine .inr ⟨P ++ [x], y :: T, q, by rw [hsp]; simp, ?_, by omega, by omega, ?_⟩
            · obtain ⟨p1, p2, p3⟩ := List.pairwise_append.1 hs2
              have p4 := List.pairwise_cons.1 p2
              have p5 := List.pairwise_cons.1 p4.2
              rw [show P ++ [x] ++ q :: y :: T = P ++ x :: q :: y :: T by simp]
              refine List.pairwise_append.2 ⟨p1, List.pairwise_cons.2 ⟨fun t ht => ?_, List.pairwise_cons.2 ⟨fun t ht => ?_, p4.2⟩⟩, fun u hu t ht => ?_⟩
              · rcases List.mem_cons.1 ht with rfl | ht
                · exact hq1
                · exact p4.1 t ht
              · rcases List.mem_cons.1 ht with rfl | ht
                · exact hq2
                · have := p5.1 t ht; omega
              · rcases List.mem_cons.1 ht with rfl | ht
                · exact p3 u hu _ (by simp)
                · rcases List.mem_cons.1 ht with rfl | ht
                  · have := p3 u hu x (by simp); omega
                  · exact p3 u hu t (List.mem_cons_of_mem _ ht)
            · rw [← own_mid c0 a r q x y P T i hil, ← hsp]
        · cases hz
    · obtain ⟨g, hg, rfl⟩ := List.mem_map.1 hz
      rw [mem_outL _ _ h1] at hg
      rcases nil_or_snoc L with rfl | ⟨P, b, rfl⟩
      · exact absurd rfl hn
      have hy := hb b (by simp)
      refine .inr ⟨P ++ [b], [], b + 1 + g, by simp, ?_, by omega, by omega, ?_⟩
      · obtain ⟨p1, p2, p3⟩ := List.pairwise_append.1 hs
        refine List.pairwise_append.2 ⟨hs, by simp, fun u hu t ht => ?_⟩
        simp only [List.mem_cons, List.not_mem_nil, or_false] at ht
        subst ht
        rcases List.mem_append.1 hu with hu | hu
        · have := p3 u hu b (by simp); omega
        · simp only [List.mem_cons, List.not_mem_nil, or_false] at hu
          subst hu; omega
      · rw [← own_tail c0 a r (b + 1 + g) b P _ (show ((P ++ [b]).map c0).length = P.length + 1 by simp)]
        rw [show gapZ b (b + 1 + g) (kap (r - 1)) = g by unfold gapZ; omega]

end Go.Proofs.YtkkoooagamadjaaGreatDoor

namespace Go.Proofs.YtkkoooagamadjaaGreatDoor
open Go.RowKit

/-- where an attribute is -/
def atZ (a : Int) (cl : List (Int × Int)) : Nat := cl.findIdx fun c => hasB c.1 a
theorem atZ_split (a : Int) (P R : List (Int × Int)) (c : Int × Int) (hP : ∀ x ∈ P, hasB x.1 a = false) (hc : hasB c.1 a = true) : atZ a (P ++ c :: R) = P.length := by
  unfold atZ
  induction P with
  | nil => simp [List.findIdx_cons, hc]
  | cons x T ih =>
    rw [List.cons_append, List.findIdx_cons, hP x (by simp), ih (fun y hy => hP y (List.mem_cons_of_mem _ hy))]
    rfl
theorem hasB_bit (s a : Int) (h0 : 0 ≤ a) (h1 : a ≤ 30) : hasB (putZ s a true) a = true := by
  rw [hasB_putZ, if_pos ⟨h0, h1⟩, if_pos rfl]

/-- what tells zones apart -/
def keyZ (a : Int) (z : Zn) : Nat × Nat := (z.1.length, atZ a z.1)
theorem own_key (cl : List (Int × Int)) (gl : List Int) (a r : Int) (k f u : Nat) (news : List Int) (h0 : 0 ≤ a) (h1 : a ≤ 30) (hcl : ∀ x ∈ cl, hasB x.1 a = false) (hk : k ≤ cl.length) : keyZ a (ownZ cl gl a r k f u news) = (cl.length + 1, k) := by
  unfold keyZ ownZ
  refine Prod.ext (ownC_len _ _ _) ?_
  show atZ a (ownC cl a k) = k
  unfold ownC
  rw [List.append_assoc, List.singleton_append, atZ_split a _ _ _ (fun x hx => hcl x (List.mem_of_mem_take hx)) (hasB_bit 0 a h0 h1), List.length_take]
  omega
theorem in_key (cl : List (Int × Int)) (gl : List Int) (a r : Int) (i : Nat) (x y : Int) (h0 : 0 ≤ a) (h1 : a ≤ 30) (hcl : ∀ x ∈ cl, hasB x.1 a = false) (hi : i < cl.length) : keyZ a (inCZ cl gl a r i x y) = (cl.length, i) := by
  unfold keyZ inCZ
  refine Prod.ext (by simp) ?_
  show atZ a (cl.set i (putZ x a true, y)) = i
  have e : cl.set i (putZ x a true, y) = cl.take i ++ (putZ x a true, y) :: cl.drop (i + 1) := by
    rw [List.set_eq_take_append_cons_drop, if_pos hi]
  rw [e, atZ_split a _ _ _ (fun x hx => hcl x (List.mem_of_mem_take hx)) (hasB_bit x a h0 h1), List.length_take]
  omega

theorem nodup_map_of {α β : Type} {f : α → β} {l : List α} (hl : l.Nodup) (hf : ∀ x ∈ l, ∀ y ∈ l, f x = f y → x = y) : (l.map f).Nodup := by
  induction l with
  | nil => simp
  | cons a t ih =>
    rw [List.nodup_cons] at hl
    rw [List.map_cons, List.nodup_cons]
    refine ⟨fun h => ?_, ih hl.2 (fun x hx y hy => hf x (List.mem_cons_of_mem _ hx) y (List.mem_cons_of_mem _ hy))⟩
    obtain ⟨b, hb, e⟩ := List.mem_map.1 h
    have := hf b (List.mem_cons_of_mem _ hb) a List.mem_cons_self e
    exact hl.1 (this ▸ hb)

theorem outL_nodup (r : Int) : (outL r).Nodup := by
  unfold outL
  split
  · simp
  · exact nodup_map_of List.nodup_range (fun x _ y _ e => by omega)
theorem splP_nodup (g r : Int) : (splP g r).Nodup := by
  unfold splP; split
  · simp
  · exact (gridP_sorted _ _).imp fun {a b} h e => by subst e; exact ltP_irrefl _ h

theorem stepZ_key (cl : List (Int × Int)) (gl : List Int) (a r : Int) (h0 : 0 ≤ a) (h1 : a ≤ 30) (hcl : ∀ x ∈ cl, hasB x.1 a = false) (i : Nat) (hi : i < cl.length) (z : Zn) (hz : z ∈ stepZ cl gl a r i) :
    keyZ a z = (cl.length, i) ∨ (keyZ a z = (cl.length + 1, i + 1) ∧ i + 1 < cl.length) := by
  unfold stepZ at hz
  rcases List.mem_cons.1 hz with rfl | hz
  · exact .inl (in_key cl gl a r i _ _ h0 h1 hcl hi)
  · split at hz
    · rename_i hlt
      obtain ⟨s, _, rfl⟩ := List.mem_map.1 hz
      exact .inr ⟨own_key cl gl a r _ _ _ _ h0 h1 hcl (by omega), hlt⟩
    · cases hz

theorem putA_nodup (cl : List (Int × Int)) (gl : List Int) (a r : Int) (h0 : 0 ≤ a) (h1 : a ≤ 30) (hcl : ∀ x ∈ cl, hasB x.1 a = false) : (putA cl gl a r).Nodup := by
  unfold putA
  split
  · simp
  · rename_i hn
    have hcg := clipL_len gl (r - 1)
    have kh : ∀ z ∈ headZ cl gl a r (outL r).reverse, keyZ a z = (cl.length + 1, 0) := by
      intro z hz
      obtain ⟨g, _, rfl⟩ := List.mem_map.1 hz
      exact own_key cl gl a r _ _ _ _ h0 h1 hcl (Nat.zero_le _)
    have km : ∀ z ∈ midZ cl gl a r cl.length, ∃ i, i < cl.length ∧ (keyZ a z = (cl.length, i) ∨ (keyZ a z = (cl.length + 1, i + 1) ∧ i + 1 < cl.length)) := by
      intro z hz
      obtain ⟨i, hi, hz⟩ := List.mem_flatMap.1 hz
      rw [List.mem_range] at hi
      exact ⟨i, hi, stepZ_key cl gl a r h0 h1 hcl i hi z hz⟩
    have kt : ∀ z ∈ tailZ cl gl a r (outL r), keyZ a z = (cl.length + 1, cl.length) := by
      intro z hz
      obtain ⟨g, _, rfl⟩ := List.mem_map.1 hz
      exact own_key cl gl a r _ _ _ _ h0 h1 hcl (Nat.le_refl _)
    have nh : (headZ cl gl a r (outL r).reverse).Nodup := by
      refine nodup_map_of (List.pairwise_reverse.2 ((outL_nodup r).imp fun h => Ne.symm h)) fun x _ y _ e => ?_
      have e2 : repG (clipL gl (r - 1)) 0 0 [x] = repG (clipL gl (r - 1)) 0 0 [y] := (Prod.mk.inj e).2
      simp [repG] at e2
      exact e2
    have nt : (tailZ cl gl a r (outL r)).Nodup := by
      refine nodup_map_of (outL_nodup r) fun x _ y _ e => ?_
      have e2 : repG (clipL gl (r - 1)) (cl.length - 1) (cl.length - 1) [x] = repG (clipL gl (r - 1)) (cl.length - 1) (cl.length - 1) [y] := (Prod.mk.inj e).2
      simp [repG] at e2
      exact e2
    have ns : ∀ i, i < cl.length → (stepZ cl gl a r i).Nodup := by
      intro i hi
      unfold stepZ
      rw [List.nodup_cons]
      refine ⟨fun h => ?_, ?_⟩
      · split at h
        · obtain ⟨s, _, e⟩ := List.mem_map.1 h
          have k1 := own_key cl gl a r (i + 1) i (i + 1) [s.1, s.2] h0 h1 hcl (by omega)
          rw [e, in_key cl gl a r i _ _ h0 h1 hcl hi] at k1
          have := (Prod.mk.inj k1).1
          omega
        · cases h
      · split
        · refine nodup_map_of (splP_nodup _ _) fun x _ y _ e => ?_
          have e2 : repG (clipL gl (r - 1)) i (i + 1) [x.1, x.2] = repG (clipL gl (r - 1)) i (i + 1) [y.1, y.2] := (Prod.mk.inj e).2
          simp [repG] at e2
          exact Prod.ext e2.1 e2.2
        · simp
    have nm : ∀ k, k ≤ cl.length → (midZ cl gl a r k).Nodup := by
      intro k
      induction k with
      | zero => intro _; simp [midZ]
      | succ k ih =>
        intro hk
        rw [midZ_succ, List.nodup_append]
        refine ⟨ih (by omega), ns k (by omega), fun x hx y hy e => ?_⟩
        subst e
        obtain ⟨i, hi, hz⟩ := List.mem_flatMap.1 hx
        rw [List.mem_range] at hi
        have k1 := stepZ_key cl gl a r h0 h1 hcl i (by omega) x hz
        have k2 := stepZ_key cl gl a r h0 h1 hcl k (by omega) x hy
        rcases k1 with k1 | ⟨k1, _⟩ <;> rcases k2 with k2 | ⟨k2, _⟩ <;> rw [k1] at k2 <;> have := Prod.mk.inj k2 <;> omega
    rw [List.nodup_append]
    refine ⟨?_, nt, fun x hx y hy e => ?_⟩
    · rw [List.nodup_append]
      refine ⟨nh, nm _ (Nat.le_refl _), fun x hx y hy e => ?_⟩
      subst e
      have k1 := kh x hx
      obtain ⟨i, hi, k2 | ⟨k2, _⟩⟩ := km x hy
      · rw [k1] at k2; have := Prod.mk.inj k2; omega
      · rw [k1] at k2; have := Prod.mk.inj k2; omega
    · subst e
      have k1 := kt x hy
      rcases List.mem_append.1 hx with hx | hx
      · have k2 := kh x hx
        rw [k1] at k2; have := Prod.mk.inj k2; omega
      · obtain ⟨i, hi, k2 | ⟨k2, hlt⟩⟩ := km x hx
        · rw [k1] at k2; have := Prod.mk.inj k2; omega
        · rw [k1] at k2; have := Prod.mk.inj k2; omega

end Go.Proofs.YtkkoooagamadjaaGreatDoor

namespace Go.Proofs.YtkkoooagamadjaaGreatDoor
open Go.RowKit

section
variable (vals consts : List Int) (a : Nat) (r : Int)
/-- the numbers of all others -/
def othZ : List Int := sortS (consts ++ selZ vals (inZ vals.length [(a : Int)]) vals.length)
def clsO : Int → Int × Int := clsZ (pS vals (inZ vals.length [(a : Int)])) vals.length (sortS consts)
/-- the zone ahead -/
def somZ : Zn := zoneZ (pS vals (inZ vals.length [(a : Int)])) vals.length (sortS consts) (othZ vals consts a) (kap r)
/-- the zone of all numbers, one of them x -/
def allX (x : Int) : Zn := zoneZ (fun y k => (vals.set a x).getD k 0 == y) vals.length (sortS consts) (sortS (vals.set a x ++ consts)) (kap (r - 1))
end

theorem inn_get (n a k : Nat) (hk : k < n) : (inZ n [(a : Int)]).getD k false = (k != a) := by
  rw [inZ_get n _ k hk]
  simp only [List.all_cons, List.all_nil, Bool.and_true]
  rw [Bool.eq_iff_iff]
  simp only [bne_iff_ne]
  omega

theorem mem_oth (vals consts : List Int) (a : Nat) (y : Int) : y ∈ othZ vals consts a ↔ y ∈ consts ∨ ∃ k, k < vals.length ∧ k ≠ a ∧ vals.getD k 0 = y := by
  unfold othZ
  rw [(sortS_ok _).2, List.mem_append]
  refine or_congr Iff.rfl ?_
  unfold selZ
  rw [List.mem_map]
  constructor
  · rintro ⟨k, hk, rfl⟩
    rw [List.mem_filter, List.mem_range] at hk
    obtain ⟨h1, h2⟩ := hk
    rw [inn_get _ _ _ h1] at h2
    exact ⟨k, h1, by simpa using h2, rfl⟩
  · rintro ⟨k, h1, h2, rfl⟩
    refine ⟨k, ?_, rfl⟩
    rw [List.mem_filter, List.mem_range]
    exact ⟨h1, by rw [inn_get _ _ _ h1]; simpa using h2⟩

theorem set_get (vals : List Int) (a k : Nat) (x : Int) (ha : a < vals.length) : (vals.set a x).getD k 0 = if k = a then x else vals.getD k 0 := by
  rw [List.getD_eq_getElem?_getD, List.getD_eq_getElem?_getD, List.getElem?_set]
  by_cases h : a = k
  · subst h; simp [ha]
  · rw [if_neg h, if_neg (fun e => h e.symm)]

theorem mem_all (vals consts : List Int) (a : Nat) (x y : Int) (ha : a < vals.length) : y ∈ sortS (vals.set a x ++ consts) ↔ y = x ∨ y ∈ othZ vals consts a := by
  rw [(sortS_ok _).2, List.mem_append, mem_oth]
  constructor
  · rintro (h | h)
    · obtain ⟨k, hk, e⟩ := List.getElem_of_mem h
      have hk' : k < vals.length := by simpa using hk
      have e2 : (vals.set a x).getD k 0 = y := by rw [List.getD_eq_getElem?_getD, List.getElem?_eq_getElem hk, e]; rfl
      rw [set_get _ _ _ _ ha] at e2
      by_cases hka : k = a
      · rw [if_pos hka] at e2; exact .inl e2.symm
      · rw [if_neg hka] at e2; exact .inr (.inr ⟨k, hk', hka, e2⟩)
    · exact .inr (.inl h)
  · have key : ∀ k, k < vals.length → (vals.set a x).getD k 0 ∈ vals.set a x := fun k hk => by
      rw [List.getD_eq_getElem?_getD, List.getElem?_eq_getElem (by simpa using hk)]
      exact List.getElem_mem _
    rintro (rfl | h | ⟨k, h1, h2, rfl⟩)
    · have := key a ha
      rw [set_get _ _ _ _ ha, if_pos rfl] at this
      exact .inl this
    · exact .inr h
    · have := key k h1
      rw [set_get _ _ _ _ ha, if_neg h2] at this
      exact .inl this

theorem attrZ_more (p q : Nat → Bool) (n a : Nat) (hn : n ≤ 31) (ha : a < n) (h : ∀ k, k < n → q k = (p k || k == a)) : attrZ q n = putZ (attrZ p n) a true := by
  rw [attrZ_ofB q n hn]
  unfold putZ
  refine congrArg (fun m : Nat => (m : Int)) (ofB_congr _ _ fun j hj => ?_)
  rw [attrZ_ofB p n hn, hasN_ofB _ _ hj]
  by_cases hja : j = a
  · subst hja
    simp [ha, h j ha]
  · rw [if_neg (by omega)]
    show (decide (j < n) && q j) = (decide (j < n) && p j)
    by_cases hjn : j < n
    · have e1 : (j == a) = false := by simpa using hja
      rw [h j hjn, e1, Bool.or_false]
    · rw [decide_eq_false hjn, Bool.false_and, Bool.false_and]

theorem cls_set (vals consts : List Int) (a : Nat) (x y : Int) (hn : vals.length ≤ 31) (ha : a < vals.length) :
    clsZ (fun y k => (vals.set a x).getD k 0 == y) vals.length (sortS consts) y = if y = x then (putZ (clsO vals consts a y).1 a true, (clsO vals consts a y).2) else clsO vals consts a y := by
  unfold clsO clsZ
  by_cases h : y = x
  · rw [if_pos h]
    refine Prod.ext ?_ rfl
    refine attrZ_more _ _ _ _ hn ha fun k hk => ?_
    unfold pS
    rw [inn_get _ _ _ hk]
    show ((vals.set a x).getD k 0 == y) = _
    rw [set_get _ _ _ _ ha]
    by_cases hka : k = a
    · subst hka; simp [h]
    · rw [if_neg hka]
      have e1 : (k != a) = true := by simpa using hka
      have e2 : (k == a) = false := by simpa using hka
      rw [e1, e2, Bool.true_and, Bool.or_false]
  · rw [if_neg h]
    refine Prod.ext ?_ rfl
    refine attrZ_congr _ _ _ fun k hk => ?_
    unfold pS
    rw [inn_get _ _ _ hk]
    show ((vals.set a x).getD k 0 == y) = _
    rw [set_get _ _ _ _ ha]
    by_cases hka : k = a
    · subst hka
      rw [if_pos rfl]
      simp only [bne_self_eq_false, Bool.false_and, beq_eq_false_iff_ne]
      exact fun e => h e.symm
    · rw [if_neg hka]; simp [hka]

theorem clsO_none (vals consts : List Int) (a : Nat) (x : Int) (hn : vals.length ≤ 31) (hx : x ∉ othZ vals consts a) : clsO vals consts a x = (0, -1) := by
  have hk : ¬ keepP (pS vals (inZ vals.length [(a : Int)])) vals.length (sortS consts) x = true := by
    rw [keepP_iff _ _ hn]
    rintro (⟨k, h1, h2⟩ | h)
    · unfold pS at h2
      rw [inn_get _ _ _ h1] at h2
      simp only [Bool.and_eq_true, bne_iff_ne, beq_iff_eq] at h2
      exact hx ((mem_oth _ _ _ _).2 (.inr ⟨k, h1, h2.1, h2.2⟩))
    · exact hx ((mem_oth _ _ _ _).2 (.inl (((sortS_ok consts).2 x).1 h)))
  unfold keepP at hk
  simpa [clsO] using hk

theorem clsO_has (vals consts : List Int) (a : Nat) (x : Int) (hn : vals.length ≤ 31) : hasB (clsO vals consts a x).1 a = false := by
  cases h : hasB (clsO vals consts a x).1 a
  · rfl
  · unfold clsO clsZ at h
    obtain ⟨k, h1, h2, h3⟩ := (attrZ_has _ _ hn _).1 h
    have : k = a := by omega
    subst this
    unfold pS at h3
    rw [inn_get _ _ _ h2] at h3
    simp at h3

/-- the zone of a number that is there already -/
theorem all_with (vals consts : List Int) (a : Nat) (r x : Int) (hn : vals.length ≤ 31) (ha : a < vals.length) (P R : List Int) (h : othZ vals consts a = P ++ x :: R) : allX vals consts a r x = withZ (clsO vals consts a) a (kap (r - 1)) P R x := by
  have hs : (othZ vals consts a).Pairwise (· < ·) := (sortS_ok _).1
  have hL : sortS (vals.set a x ++ consts) = P ++ x :: R := by
    rw [← h]
    refine int_uniq (sortS_ok _).1 hs fun y => ?_
    rw [mem_all _ _ _ _ _ ha]
    constructor
    · rintro (rfl | h')
      · rw [h]; simp
      · exact h'
    · exact .inr
  rw [h] at hs
  obtain ⟨p1, p2, p3⟩ := List.pairwise_append.1 hs
  have p4 := List.pairwise_cons.1 p2
  unfold allX withZ zoneZ
  rw [hL]
  refine Prod.ext ?_ rfl
  show List.map _ _ = _
  rw [List.map_append, List.map_cons]
  rw [cls_set vals consts a x x hn ha, if_pos rfl]
  have e1 : P.map (clsZ (fun y k => (vals.set a x).getD k 0 == y) vals.length (sortS consts)) = P.map (clsO vals consts a) := List.map_congr_left fun y hy => by
    rw [cls_set vals consts a x y hn ha, if_neg (by have := p3 y hy x (by simp); omega)]
  have e2 : R.map (clsZ (fun y k => (vals.set a x).getD k 0 == y) vals.length (sortS consts)) = R.map (clsO vals consts a) := List.map_congr_left fun y hy => by
    rw [cls_set vals consts a x y hn ha, if_neg (by have := p4.1 y hy; omega)]
  rw [e1, e2]
  simp
/-- the zone of a number that is none of the others -/
theorem all_bet (vals consts : List Int) (a : Nat) (r x : Int) (hn : vals.length ≤ 31) (ha : a < vals.length) (P R : List Int) (h : othZ vals consts a = P ++ R) (hs : (P ++ x :: R).Pairwise (· < ·)) : allX vals consts a r x = betZ (clsO vals consts a) a (kap (r - 1)) P R x := by
  have hL : sortS (vals.set a x ++ consts) = P ++ x :: R := by
    refine int_uniq (sortS_ok _).1 hs fun y => ?_
    rw [mem_all _ _ _ _ _ ha, h]
    simp only [List.mem_append, List.mem_cons]
    constructor
    · rintro (h' | h' | h') <;> simp [h']
    · rintro (h' | h' | h') <;> simp [h']
  obtain ⟨p1, p2, p3⟩ := List.pairwise_append.1 hs
  have p4 := List.pairwise_cons.1 p2
  have hx : x ∉ othZ vals consts a := by
    rw [h, List.mem_append]
    rintro (h' | h')
    · have := p3 x h' x (by simp); omega
    · have := p4.1 x h'; omega
  unfold allX betZ zoneZ
  rw [hL]
  refine Prod.ext ?_ rfl
  show List.map _ _ = _
  rw [List.map_append, List.map_cons]
  rw [cls_set vals consts a x x hn ha, if_pos rfl, clsO_none _ _ _ _ hn hx]
  have e1 : P.map (clsZ (fun y k => (vals.set a x).getD k 0 == y) vals.length (sortS consts)) = P.map (clsO vals consts a) := List.map_congr_left fun y hy => by
    rw [cls_set vals consts a x y hn ha, if_neg (by have := p3 y hy x (by simp); omega)]
  have e2 : R.map (clsZ (fun y k => (vals.set a x).getD k 0 == y) vals.length (sortS consts)) = R.map (clsO vals consts a) := List.map_congr_left fun y hy => by
    rw [cls_set vals consts a x y hn ha, if_neg (by have := p4.1 y hy; omega)]
  rw [e1, e2]
  simp [bitZ]

theorem som_put (vals consts : List Int) (a : Nat) (r : Int) (hn : vals.length ≤ 31) (ha : a < vals.length) (h1 : 1 ≤ r) :
    putL (somZ vals consts a r).1 (somZ vals consts a r).2 a r = putA ((othZ vals consts a).map (clsO vals consts a)) (gapsZ (kap r) (othZ vals consts a)) a r := by
  unfold putL
  rw [if_neg (by omega), if_neg (fun e => by have := (bitZ_zero (a : Int)).1 e; omega)]
  rw [if_neg, if_pos]
  · rfl
  · unfold somZ zoneZ; simp [gapsZ_len]
  · unfold somZ zoneZ
    rw [List.any_eq_true]
    rintro ⟨c, hc, hh⟩
    obtain ⟨y, _, rfl⟩ := List.mem_map.1 hc
    have := clsO_has vals consts a y hn
    unfold clsO at this
    rw [this] at hh
    cases hh

/-- the law: these zones, each once -/
theorem true_mem (vals consts : List Int) (a : Nat) (r : Int) (hn : vals.length ≤ 31) (ha : a < vals.length) (h1 : 1 ≤ r) (h2 : r ≤ 20) (x : Int) : allX vals consts a r x ∈ putL (somZ vals consts a r).1 (somZ vals consts a r).2 a r := by
  rw [som_put vals consts a r hn ha h1]
  have hs : (othZ vals consts a).Pairwise (· < ·) := (sortS_ok _).1
  by_cases hx : x ∈ othZ vals consts a
  · obtain ⟨P, R, h⟩ := List.append_of_mem hx
    rw [all_with vals consts a r x hn ha P R h, h]
    exact with_mem _ _ _ _ _ _
  · obtain ⟨P, R, h, hp⟩ : ∃ P R, othZ vals consts a = P ++ R ∧ (P ++ x :: R).Pairwise (· < ·) := by
      have key : ∀ L : List Int, L.Pairwise (· < ·) → x ∉ L → ∃ P R, L = P ++ R ∧ (P ++ x :: R).Pairwise (· < ·) := by
        intro L
        induction L with
        | nil => intro _ _; exact ⟨[], [], rfl, by simp⟩
        | cons y T ih =>
          intro hs hx
          obtain ⟨hs1, hs2⟩ := List.pairwise_cons.1 hs
          by_cases hyx : x < y
          · refine ⟨[], y :: T, rfl, List.pairwise_cons.2 ⟨fun t ht => ?_, hs⟩⟩
            rcases List.mem_cons.1 ht with rfl | ht
            · exact hyx
            · have := hs1 t ht; omega
          · have hne : x ≠ y := fun e => hx (by rw [e]; simp)
            obtain ⟨P, R, rfl, hp⟩ := ih hs2 (fun h => hx (List.mem_cons_of_mem _ h))
            refine ⟨y :: P, R, rfl, List.pairwise_cons.2 ⟨fun t ht => ?_, hp⟩⟩
            rcases List.mem_append.1 ht with ht | ht
            · exact hs1 t (List.mem_append_left _ ht)
            · rcases List.mem_cons.1 ht with rfl | ht
              · omega
              · exact hs1 t (List.mem_append_right _ ht)
      exact key _ hs hx
    rw [all_bet vals consts a r x hn ha P R h hp, h]
    exact bet_mem _ _ _ _ h1 h2 P R hp
theorem true_comes (vals consts : List Int) (a : Nat) (r lo hi : Int) (hn : vals.length ≤ 31) (ha : a < vals.length) (h1 : 1 ≤ r) (h2 : r ≤ 20) (h0 : lo ≤ hi) (hb : ∀ x ∈ othZ vals consts a, lo ≤ x ∧ x ≤ hi) (z : Zn) (hz : z ∈ putL (somZ vals consts a r).1 (somZ vals consts a r).2 a r) :
    ∃ x, lo - (kap (r - 1) : Int) - 1 ≤ x ∧ x ≤ hi + (kap (r - 1) : Int) + 1 ∧ allX vals consts a r x = z := by
  rw [som_put vals consts a r hn ha h1] at hz
  have hs : (othZ vals consts a).Pairwise (· < ·) := (sortS_ok _).1
  rcases put_comes (clsO vals consts a) a r lo hi h1 h2 _ hs hb h0 z hz with ⟨P, R, x, h, rfl⟩ | ⟨P, R, x, h, hp, q1, q2, rfl⟩
  · have hx := hb x (by rw [h]; simp)
    exact ⟨x, by omega, by omega, all_with vals consts a r x hn ha P R h⟩
  · exact ⟨x, q1, q2, all_bet vals consts a r x hn ha P R h hp⟩
theorem true_once (vals consts : List Int) (a : Nat) (r : Int) (hn : vals.length ≤ 31) (ha : a < vals.length) (h1 : 1 ≤ r) : (putL (somZ vals consts a r).1 (somZ vals consts a r).2 a r).Nodup := by
  rw [som_put vals consts a r hn ha h1]
  refine putA_nodup _ _ _ _ (by omega) (by omega) (fun c hc => ?_)
  obtain ⟨y, _, rfl⟩ := List.mem_map.1 hc
  exact clsO_has vals consts a y hn

end Go.Proofs.YtkkoooagamadjaaGreatDoor
