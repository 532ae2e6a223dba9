/- Zones with an attribute more are those of all numbers that it may have: plain. -/
import Derived.Test.YtjmggphnngffjaaPutE
import Derived.Test.YtjmggphnngffjaaZonePlain
namespace Go.Proofs.Ytjmggphnngffjaa
open Go.RowKit

theorem nil_or_snoc (L : List Int) : L = [] ∨ ∃ P b, L = P ++ [b] := by
  rcases List.eq_nil_or_concat L with h | ⟨P, b, h⟩
  · exact .inl h
  · exact .inr ⟨P, b, by rw [h, List.concat_eq_append]⟩
theorem gap_klip (b y r : Int) : gapZ b y (kap r) = klip (y - b - 1) r := by unfold gapZ klip; omega
theorem gap_bd (a b : Int) (h : Nat) : 0 ≤ gapZ a b h ∧ gapZ a b h ≤ h := by unfold gapZ; omega
theorem mem_outL (r g : Int) (h1 : 1 ≤ r) : g ∈ outL r ↔ 0 ≤ g ∧ g ≤ kap (r - 1) := by
  unfold outL
  rw [if_neg (by omega), List.mem_map]
  constructor
  · rintro ⟨i, hi, rfl⟩
    rw [List.mem_range] at hi
    omega
  · intro ⟨h2, h3⟩
    exact ⟨g.toNat, List.mem_range.2 (by omega), by omega⟩
theorem clipL_zone (L : List Int) (r : Int) : clipL (gapsZ (kap r) L) (r - 1) = gapsZ (kap (r - 1)) L := clip_zone L r

/-- a zone with the attribute alone between P and R -/
def betZ (c0 : Int → Int × Int) (a : Int) (h : Int) (P R : List Int) (x : Int) : Zn := (P.map c0 ++ [(bitZ a, -1)] ++ R.map c0, gapsZ h (P ++ x :: R))

theorem own_head (c0 : Int → Int × Int) (a r x y : Int) (T : List Int) :
    ownZ ((y :: T).map c0) (gapsZ (kap r) (y :: T)) a r 0 0 0 [gapZ x y (kap (r - 1))] = betZ c0 a (kap (r - 1)) [] (y :: T) x := by
  unfold ownZ betZ
  refine Prod.ext ?_ ?_
  · simp [ownC]
  · show repG (clipL _ (r - 1)) 0 0 _ = _
    rw [clipL_zone]
    simp [repG, gapsZ]
theorem own_tail (c0 : Int → Int × Int) (a r x b : Int) (P : List Int) (n : Nat) (hn : n = P.length + 1) :
    ownZ ((P ++ [b]).map c0) (gapsZ (kap r) (P ++ [b])) a r n (n - 1) (n - 1) [gapZ b x (kap (r - 1))] = betZ c0 a (kap (r - 1)) (P ++ [b]) [] x := by
  subst hn
  unfold ownZ betZ
  have hl : (gapsZ (kap (r - 1)) (P ++ [b])).length = P.length := by rw [gapsZ_len]; simp
  refine Prod.ext ?_ ?_
  · show ownC _ a _ = _
    unfold ownC
    rw [List.take_of_length_le (by simp), List.drop_eq_nil_of_le (by simp)]
    simp
  · show repG (clipL _ (r - 1)) _ _ _ = _
    rw [clipL_zone]
    unfold repG
    rw [List.take_of_length_le (by rw [hl]; omega), List.drop_eq_nil_of_le (by rw [hl]; omega), List.append_nil]
    exact (gapsZ_snoc _ P b x).symm
theorem own_mid (c0 : Int → Int × Int) (a r x b y : Int) (P T : List Int) (i : Nat) (hi : i = P.length) :
    ownZ ((P ++ b :: y :: T).map c0) (gapsZ (kap r) (P ++ b :: y :: T)) a r (i + 1) i (i + 1) [gapZ b x (kap (r - 1)), gapZ x y (kap (r - 1))] = betZ c0 a (kap (r - 1)) (P ++ [b]) (y :: T) x := by
  subst hi
  unfold ownZ betZ
  have hl : (gapsZ (kap (r - 1)) (P ++ [b])).length = P.length := by rw [gapsZ_len]; simp
  refine Prod.ext ?_ ?_
  · show ownC _ a _ = _
    unfold ownC
    have e1 : (P ++ b :: y :: T).map c0 = (P ++ [b]).map c0 ++ (y :: T).map c0 := by simp
    rw [e1, List.take_left' (by simp), List.drop_left' (by simp)]
  · show repG (clipL _ (r - 1)) _ _ _ = _
    rw [clipL_zone, gapsZ_app]
    unfold repG
    rw [List.take_left' hl]
    have e2 : gapsZ (kap (r - 1)) (P ++ [b]) ++ gapZ b y (kap (r - 1)) :: gapsZ (kap (r - 1)) (y :: T) = (gapsZ (kap (r - 1)) (P ++ [b]) ++ [gapZ b y (kap (r - 1))]) ++ gapsZ (kap (r - 1)) (y :: T) := by simp
    rw [e2, List.drop_left' (by simp [hl])]
    have e3 : P ++ [b] ++ x :: y :: T = P ++ b :: x :: y :: T := by simp
    show _ = gapsZ _ (P ++ [b] ++ x :: y :: T)
    rw [e3, gapsZ_app]
    simp [gapsZ]

/-- which splits two numbers leave for a third one -/
theorem spl_gap (r b y : Int) (h1 : 1 ≤ r) (h2 : r ≤ 20) (hby : b < y) (s : Int × Int) : s ∈ splP (gapZ b y (kap r)) r ↔ ∃ x, b < x ∧ x < y ∧ s = (gapZ b x (kap (r - 1)), gapZ x y (kap (r - 1))) := by
  rw [gap_klip, spl_true_mem _ _ h1 h2 (by omega)]
  obtain ⟨g, hg⟩ : ∃ g : Nat, y - b - 1 = g := ⟨(y - b - 1).toNat, by omega⟩
  rw [hg, truP_mem, List.mem_map]
  constructor
  · rintro ⟨t, ht, rfl⟩
    rw [List.mem_range] at ht
    refine ⟨b + 1 + t, by omega, by omega, ?_⟩
    unfold ptP P.lim gapZ
    refine Prod.ext ?_ ?_ <;> simp only <;> omega
  · rintro ⟨x, hx1, hx2, rfl⟩
    refine ⟨(x - b - 1).toNat, List.mem_range.2 (by omega), ?_⟩
    unfold ptP P.lim gapZ
    refine Prod.ext ?_ ?_ <;> simp only <;> omega

/-- between all numbers: it is told -/
theorem bet_mem (c0 : Int → Int × Int) (a r x : Int) (h1 : 1 ≤ r) (h2 : r ≤ 20) (P R : List Int) (hs : (P ++ x :: R).Pairwise (· < ·)) : betZ c0 a (kap (r - 1)) P R x ∈ putA ((P ++ R).map c0) (gapsZ (kap r) (P ++ R)) a r := by
  rcases nil_or_snoc P with rfl | ⟨P, b, rfl⟩
  · cases R with
    | nil =>
      unfold putA
      rw [if_pos (by simp)]
      refine List.mem_singleton.2 ?_
      simp [ownZ, ownC, betZ, repG, clipL, gapsZ]
    | cons y T =>
      unfold putA
      rw [if_neg (by simp)]
      refine List.mem_append_left _ (List.mem_append_left _ (List.mem_map.2 ⟨gapZ x y (kap (r - 1)), ?_, own_head c0 a r x y T⟩))
      rw [List.mem_reverse, mem_outL _ _ h1]
      exact gap_bd _ _ _
  · cases R with
    | nil =>
      unfold putA
      rw [if_neg (by simp)]
      refine List.mem_append_right _ (List.mem_map.2 ⟨gapZ b x (kap (r - 1)), ?_, ?_⟩)
      · rw [mem_outL _ _ h1]; exact gap_bd _ _ _
      · rw [List.append_nil]
        exact own_tail c0 a r x b P _ (by simp)
    | cons y T =>
      have e : P ++ [b] ++ y :: T = P ++ b :: y :: T := by simp
      have hb : b < x ∧ x < y := by
        rw [show P ++ [b] ++ x :: y :: T = P ++ (b :: x :: y :: T) by simp] at hs
        have := (List.pairwise_append.1 hs).2.1
        simp only [List.pairwise_cons, List.mem_cons] at this
        exact ⟨this.1 x (.inl rfl), this.2.1 y (.inl rfl)⟩
      rw [e]
      unfold putA
      rw [if_neg (by simp)]
      refine List.mem_append_left _ (List.mem_append_right _ (List.mem_flatMap.2 ⟨P.length, List.mem_range.2 (by simp), ?_⟩))
      unfold stepZ
      refine List.mem_cons_of_mem _ ?_
      rw [if_pos (by simp), List.mem_map]
      refine ⟨(gapZ b x (kap (r - 1)), gapZ x y (kap (r - 1))), ?_, own_mid c0 a r x b y P T _ rfl⟩
      have hg : (gapsZ (kap r) (P ++ b :: y :: T)).getD P.length 0 = gapZ b y (kap r) := by
        rw [gapsZ_app, List.getD_eq_getElem?_getD, List.getElem?_append_right (by rw [gapsZ_len]; simp)]
        simp [gapsZ_len]
      rw [hg, spl_gap r b y h1 h2 (by omega)]
      exact ⟨x, hb.1, hb.2, rfl⟩

/-- the attribute in a class -/
def withZ (c0 : Int → Int × Int) (a : Int) (h : Int) (P R : List Int) (x : Int) : Zn := (P.map c0 ++ [(putZ (c0 x).1 a true, (c0 x).2)] ++ R.map c0, gapsZ h (P ++ x :: R))
theorem in_with (c0 : Int → Int × Int) (a r x : Int) (P R : List Int) (i : Nat) (hi : i = P.length) :
    inCZ ((P ++ x :: R).map c0) (gapsZ (kap r) (P ++ x :: R)) a r i (((P ++ x :: R).map c0).getD i (0, 0)).1 (((P ++ x :: R).map c0).getD i (0, 0)).2 = withZ c0 a (kap (r - 1)) P R x := by
  subst hi
  have hg : ((P ++ x :: R).map c0).getD P.length (0, 0) = c0 x := by
    rw [List.getD_eq_getElem?_getD, List.map_append, List.getElem?_append_right (by simp)]
    simp
  unfold inCZ withZ
  rw [hg]
  refine Prod.ext ?_ ?_
  · show List.set _ _ _ = _
    rw [List.map_append, List.set_append_right _ _ (by simp)]
    simp
  · exact clipL_zone _ _
theorem with_mem (c0 : Int → Int × Int) (a r x : Int) (P R : List Int) : withZ c0 a (kap (r - 1)) P R x ∈ putA ((P ++ x :: R).map c0) (gapsZ (kap r) (P ++ x :: R)) a r := by
  unfold putA
  rw [if_neg (by simp)]
  refine List.mem_append_left _ (List.mem_append_right _ (List.mem_flatMap.2 ⟨P.length, List.mem_range.2 (by simp), ?_⟩))
  unfold stepZ
  rw [in_with c0 a r x P R _ rfl]
  exact List.mem_cons_self

/-- each zone that is told comes of a number, not too far out -/
theorem put_comes (c0 : Int → Int × Int) (a r lo hi : Int) (h1 : 1 ≤ r) (h2 : r ≤ 20) (L : List Int) (hs : L.Pairwise (· < ·)) (hb : ∀ x ∈ L, lo ≤ x ∧ x ≤ hi) (h0 : lo ≤ hi) (z : Zn) (hz : z ∈ putA (L.map c0) (gapsZ (kap r) L) a r) :
    (∃ P R x, L = P ++ x :: R ∧ z = withZ c0 a (kap (r - 1)) P R x) ∨ ∃ P R x, L = P ++ R ∧ (P ++ x :: R).Pairwise (· < ·) ∧ lo - (kap (r - 1) : Int) - 1 ≤ x ∧ x ≤ hi + (kap (r - 1) : Int) + 1 ∧ z = betZ c0 a (kap (r - 1)) P R x := by
  unfold putA at hz
  by_cases hn : L = []
  · subst hn
    rw [if_pos (by simp), List.mem_singleton] at hz
    refine .inr ⟨[], [], lo, rfl, by simp, by omega, by omega, ?_⟩
    rw [hz]
    simp [ownZ, ownC, betZ, repG, clipL, gapsZ]
  · have hlen : 0 < L.length := List.length_pos_iff.2 hn
    rw [if_neg (by simp; exact hn), List.mem_append, List.mem_append] at hz
    rcases hz with (hz | hz) | hz
    · obtain ⟨g, hg, rfl⟩ := List.mem_map.1 hz
      rw [List.mem_reverse, mem_outL _ _ h1] at hg
      obtain ⟨y, T, rfl⟩ := List.exists_cons_of_ne_nil hn
      have hy := hb y (by simp)
      refine .inr ⟨[], y :: T, y - 1 - g, rfl, ?_, by omega, by omega, ?_⟩
      · refine List.pairwise_cons.2 ⟨fun t ht => ?_, hs⟩
        rcases List.mem_cons.1 ht with rfl | ht
        · omega
        · have := (List.pairwise_cons.1 hs).1 t ht; omega
      · rw [← own_head]
        rw [show gapZ (y - 1 - g) y (kap (r - 1)) = g by unfold gapZ; omega]
    · obtain ⟨i, hi', hz⟩ := List.mem_flatMap.1 hz
      rw [List.mem_range, List.length_map] at hi'
      have hsp : L = L.take i ++ L[i] :: L.drop (i + 1) := by rw [← List.drop_eq_getElem_cons hi', List.take_append_drop]
      have hil : i = (L.take i).length := by rw [List.length_take]; omega
      obtain ⟨P, hP⟩ : ∃ P, L.take i = P := ⟨_, rfl⟩
      obtain ⟨R, hR⟩ : ∃ R, L.drop (i + 1) = R := ⟨_, rfl⟩
      obtain ⟨x, hx⟩ : ∃ x, L[i] = x := ⟨_, rfl⟩
      rw [hP, hR, hx] at hsp
      rw [hP] at hil
      unfold stepZ at hz
      rcases List.mem_cons.1 hz with rfl | hz
      · refine .inl ⟨P, R, x, hsp, ?_⟩
        rw [hsp]
        exact in_with c0 a r x P R i hil
      · split at hz
        · rename_i hlt
          rw [List.length_map] at hlt
          obtain ⟨s, hs', rfl⟩ := List.mem_map.1 hz
          cases R with
          | nil => rw [hsp] at hlt; simp at hlt; omega
          | cons y T =>
            have hg : (gapsZ (kap r) L).getD i 0 = gapZ x y (kap r) := by
              rw [hsp, gapsZ_app, List.getD_eq_getElem?_getD, List.getElem?_append_right (by rw [gapsZ_len]; simp; omega)]
              simp [gapsZ_len, hil]
            have hs2 := hs
            rw [hsp] at hs2
            have hxy : x < y := by
              have := (List.pairwise_append.1 hs2).2.1
              exact (List.pairwise_cons.1 this).1 y (by simp)
            rw [hg, spl_gap r x y h1 h2 hxy] at hs'
            obtain ⟨q, hq1, hq2, rfl⟩ := hs'
            have hxm := hb x (by rw [hsp]; simp)
            have hym := hb y (by rw [hsp]; simp)
            refine .inr ⟨P ++ [x], y :: T, q, by rw [hsp]; simp, ?_, by omega, by omega, ?_⟩
            · obtain ⟨p1, p2, p3⟩ := List.pairwise_append.1 hs2
              have p4 := List.pairwise_cons.1 p2
              have p5 := List.pairwise_cons.1 p4.2
              rw [show P ++ [x] ++ q :: y :: T = P ++ x :: q :: y :: T by simp]
              refine List.pairwise_append.2 ⟨p1, List.pairwise_cons.2 ⟨fun t ht => ?_, List.pairwise_cons.2 ⟨fun t ht => ?_, p4.2⟩⟩, fun u hu t ht => ?_⟩
              · rcases List.mem_cons.1 ht with rfl | ht
                · exact hq1
                · exact p4.1 t ht
              · rcases List.mem_cons.1 ht with rfl | ht
                · exact hq2
                · have := p5.1 t ht; omega
              · rcases List.mem_cons.1 ht with rfl | ht
                · exact p3 u hu _ (by simp)
                · rcases List.mem_cons.1 ht with rfl | ht
                  · have := p3 u hu x (by simp); omega
                  · exact p3 u hu t (List.mem_cons_of_mem _ ht)
            · rw [← own_mid c0 a r q x y P T i hil, ← hsp]
        · cases hz
    · obtain ⟨g, hg, rfl⟩ := List.mem_map.1 hz
      rw [mem_outL _ _ h1] at hg
      rcases nil_or_snoc L with rfl | ⟨P, b, rfl⟩
      · exact absurd rfl hn
      have hy := hb b (by simp)
      refine .inr ⟨P ++ [b], [], b + 1 + g, by simp, ?_, by omega, by omega, ?_⟩
      · obtain ⟨p1, p2, p3⟩ := List.pairwise_append.1 hs
        refine List.pairwise_append.2 ⟨hs, by simp, fun u hu t ht => ?_⟩
        simp only [List.mem_cons, List.not_mem_nil, or_false] at ht
        subst ht
        rcases List.mem_append.1 hu with hu | hu
        · have := p3 u hu b (by simp); omega
        · simp only [List.mem_cons, List.not_mem_nil, or_false] at hu
          subst hu; omega
      · rw [← own_tail c0 a r (b + 1 + g) b P _ (show ((P ++ [b]).map c0).length = P.length + 1 by simp)]
        rw [show gapZ b (b + 1 + g) (kap (r - 1)) = g by unfold gapZ; omega]

end Go.Proofs.Ytjmggphnngffjaa
