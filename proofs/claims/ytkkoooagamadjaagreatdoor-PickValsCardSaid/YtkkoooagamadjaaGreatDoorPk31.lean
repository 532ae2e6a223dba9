/- The law WriteTrue: plain facts. The law WriteOrder: plain. without and Drop of warderref23: plain. The law PutPuts. Check of warderref22: sits, classes. Check of warderref22: classes. Check of warderref22: fits. num.Gap. -/
import Derived.Test.YtkkoooagamadjaaGreatDoorPk30
import Derived.Test.YtkkoooagamadjaaGreatDoorPk17
import Derived.Test.YtkkoooagamadjaaGreatDoorPk22
import Derived.Test.YtkkoooagamadjaaGreatDoorPk11
import Derived.Test.YtkkoooagamadjaaGreatDoorPk09

namespace Go.Proofs.YtkkoooagamadjaaGreatDoor
open Go.RowKit

theorem gapsZ_bd (c : Int) (hc : 0 ≤ c) : ∀ (l : List Int), ∀ g ∈ gapsZ c l, 0 ≤ g ∧ g ≤ c
  | [], g, h => by simp [gapsZ] at h
  | [_], g, h => by simp [gapsZ] at h
  | x :: y :: l, g, h => by
    rcases List.mem_cons.1 h with rfl | h
    · unfold gapZ; omega
    · exact gapsZ_bd c hc (y :: l) g h
theorem constZ_bd (C : List Int) (x : Int) : ∀ n, -1 ≤ constZ C x n ∧ constZ C x n < (n : Int) + 1
  | 0 => by simp [constZ]
  | k + 1 => by
    rw [constZ]
    have := constZ_bd C x k
    split <;> omega
theorem ofZ_I64 (vals consts : List Int) (r : Int) (hc : consts.length ≤ 1000) : I64 (ofZ vals consts r) := by
  have hk := kap_le r
  refine ⟨fun c h => ?_, fun g h => ?_⟩
  · unfold ofZ zoneZ at h
    obtain ⟨x, _, rfl⟩ := List.mem_map.1 h
    unfold clsZ
    have h1 := attrZ_bd (pZ vals x) vals.length
    have h2 := constZ_bd (sortS consts) x (sortS consts).length
    have h3 := sortS_len consts
    dsimp only
    omega
  · unfold ofZ zoneZ at h
    have := gapsZ_bd (kap r : Int) (by omega) _ g h
    omega

theorem nodup_sub_len {α : Type} [DecidableEq α] : ∀ (S L : List α), S.Nodup → (∀ z ∈ S, z ∈ L) → S.length ≤ L.length
  | [], _, _, _ => by simp
  | z :: S, L, hn, h => by
    obtain ⟨h1, h2⟩ := List.nodup_cons.1 hn
    have hz := h z (by simp)
    have := nodup_sub_len S (L.erase z) h2 (fun y hy => (List.mem_erase_of_ne (by rintro rfl; exact h1 hy)).2 (h y (List.mem_cons_of_mem _ hy)))
    rw [List.length_erase_of_mem hz] at this
    have hp : 0 < L.length := List.length_pos_of_mem hz
    simp only [List.length_cons]; omega
theorem win_len (L : List Zn) (f : Int → Zn) (lo : Int) (n : Nat) (hL : L.Nodup) (h : ∀ z ∈ L, ∃ x, lo ≤ x ∧ x < lo + n ∧ f x = z) : L.length ≤ n := by
  have := nodup_sub_len L ((List.range n).map fun i : Nat => f (lo + i)) hL (fun z hz => by
    obtain ⟨x, h1, h2, rfl⟩ := h z hz
    refine List.mem_map.2 ⟨(x - lo).toNat, List.mem_range.2 (by omega), ?_⟩
    rw [show lo + (((x - lo).toNat : Nat) : Int) = x by omega])
  simpa using this
theorem flat_len (f : Zn → List Zn) (c : Nat) : ∀ (l : List Zn), (∀ z ∈ l, (f z).length ≤ c) → (l.flatMap f).length ≤ l.length * c
  | [], _ => by simp
  | z :: l, h => by
    have h1 := h z (by simp)
    have h2 := flat_len f c l (fun y hy => h y (List.mem_cons_of_mem _ hy))
    simp only [List.flatMap_cons, List.length_append, List.length_cons, Nat.add_mul, Nat.one_mul]
    omega

theorem kap_w3 (r : Int) (h2 : 2 ≤ r) (h3 : r ≤ 3) : kap (r - 1) ≤ 3 ∧ kap (r - 2) ≤ 1 ∧ kap r ≤ 7 := by
  rcases (show r = 2 ∨ r = 3 by omega) with rfl | rfl <;> decide

theorem oth_in (v consts : List Int) (c : Nat) (l h : Int) (H : ∀ x ∈ consts ++ v, l ≤ x ∧ x ≤ h) : ∀ x ∈ othZ v consts c, l ≤ x ∧ x ≤ h := by
  intro x hx
  rcases (mem_oth _ _ _ _).1 hx with h1 | ⟨k, h1, _, rfl⟩
  · exact H x (List.mem_append_left _ h1)
  · refine H _ (List.mem_append_right _ ?_)
    rw [List.getD_eq_getElem?_getD, List.getElem?_eq_getElem h1]
    exact List.getElem_mem _
theorem ofZ_small (vals consts : List Int) (r : Int) (hv : vals.length ≤ 4) (hc : consts.length ≤ 3) : (ofZ vals consts r).1.length ≤ 60 ∧ (ofZ vals consts r).2.length ≤ 60 := by
  have := ofZ_len vals consts r; omega

/-- the first write -/
theorem first_write (vals consts : List Int) (a : Nat) (r : Int) (hv : vals.length ≤ 4) (ha : a < vals.length) (h2 : 2 ≤ r) (h3 : r ≤ 3) (hb : ∀ x ∈ consts ++ vals, -12 ≤ x ∧ x ≤ 12) :
    (wrOne a r (ofZ vals consts r)).length ≤ 33 ∧ ∀ z ∈ wrOne a r (ofZ vals consts r), ∃ x, -16 ≤ x ∧ x ≤ 16 ∧ z = ofZ (vals.set a x) consts (r - 1) := by
  have hk := kap_w3 r h2 h3
  rw [wrOne_of vals consts a r (by omega)]
  have hcm := true_comes vals consts a r (-12) 12 (by omega) ha (by omega) (by omega) (by omega) (oth_in vals consts a _ _ hb)
  refine ⟨win_len _ (fun x => allX vals consts a r x) (-16) 33 (true_once vals consts a r (by omega) ha (by omega)) (fun z hz => ?_), fun z hz => ?_⟩
  · obtain ⟨x, q1, q2, e⟩ := hcm z hz
    exact ⟨x, by omega, by omega, e⟩
  · obtain ⟨x, q1, q2, e⟩ := hcm z hz
    exact ⟨x, by omega, by omega, by rw [← e, allX_of]⟩
/-- the second one -/
theorem second_write (vals consts : List Int) (a b : Nat) (r x : Int) (hv : vals.length ≤ 4) (hbv : b < vals.length) (h2 : 2 ≤ r) (h3 : r ≤ 3) (hb : ∀ x ∈ consts ++ vals, -12 ≤ x ∧ x ≤ 12) (hx : -16 ≤ x ∧ x ≤ 16) :
    (wrOne b (r - 1) (ofZ (vals.set a x) consts (r - 1))).length ≤ 37 ∧ ∀ z ∈ wrOne b (r - 1) (ofZ (vals.set a x) consts (r - 1)), ∃ y, z = ofZ ((vals.set a x).set b y) consts (r - 2) := by
  have hk := kap_w3 r h2 h3
  have hl : (vals.set a x).length = vals.length := List.length_set ..
  have hbs : ∀ w ∈ consts ++ vals.set a x, -16 ≤ w ∧ w ≤ 16 := fun w hw => by
    rcases List.mem_append.1 hw with h | h
    · have := hb w (List.mem_append_left _ h); omega
    · rcases List.mem_or_eq_of_mem_set h with h | rfl
      · have := hb w (List.mem_append_right _ h); omega
      · exact hx
  rw [wrOne_of (vals.set a x) consts b (r - 1) (by omega)]
  have hcm := true_comes (vals.set a x) consts b (r - 1) (-16) 16 (by omega) (by omega) (by omega) (by omega) (by omega) (oth_in _ consts b _ _ hbs)
  rw [show r - 1 - 1 = r - 2 by omega] at hcm
  refine ⟨win_len _ (fun y => allX (vals.set a x) consts b (r - 1) y) (-18) 37 (true_once _ consts b (r - 1) (by omega) (by omega) (by omega)) (fun z hz => ?_), fun z hz => ?_⟩
  · obtain ⟨y, q1, q2, e⟩ := hcm z hz
    exact ⟨y, by omega, by omega, e⟩
  · obtain ⟨y, q1, q2, e⟩ := hcm z hz
    exact ⟨y, by rw [← e, allX_of, show r - 1 - 1 = r - 2 by omega]⟩
theorem true_ok (vals consts : List Int) (a b : Nat) (r : Int) (hv : vals.length ≤ 4) (hc : consts.length ≤ 3) (ha : a < vals.length) (hbv : b < vals.length) (h2 : 2 ≤ r) (h3 : r ≤ 3) (hb : ∀ x ∈ consts ++ vals, -12 ≤ x ∧ x ≤ 12) : WrOK r [(a : Int), (b : Int)] [ofZ vals consts r] := by
  obtain ⟨f1, f2⟩ := first_write vals consts a r hv ha h2 h3 hb
  have e1 : [ofZ vals consts r].flatMap (wrOne a r) = wrOne a r (ofZ vals consts r) := by simp
  have hsm : ∀ (v : List Int) (q : Int), v.length = vals.length → SmallZ (ofZ v consts q) ∧ I64 (ofZ v consts q) := fun v q h => by
    have := ofZ_len v consts q
    exact ⟨⟨by omega, by omega⟩, ofZ_I64 v consts q (by omega)⟩
  have hw : ∀ z ∈ wrStep a r [ofZ vals consts r], ∃ x, -16 ≤ x ∧ x ≤ 16 ∧ z = ofZ (vals.set a x) consts (r - 1) := fun z hz => by
    unfold wrStep at hz
    rw [uniqL_mem, e1] at hz
    exact f2 z hz
  have hwl : (wrStep a r [ofZ vals consts r]).length ≤ 33 := by
    unfold wrStep
    rw [e1]
    exact Nat.le_trans (uniqL_len _) f1
  refine ⟨by omega, by simp, ?_, by rw [e1]; omega, ?_, by omega, by omega, ?_, ?_, ?_, trivial⟩
  · intro z hz
    rw [List.mem_singleton] at hz
    subst hz
    exact ofZ_small vals consts r hv hc
  · intro y hy
    rw [e1] at hy
    obtain ⟨x, _, _, rfl⟩ := f2 y hy
    exact hsm _ _ (List.length_set ..)
  · intro z hz
    obtain ⟨x, _, _, rfl⟩ := hw z hz
    exact ofZ_small _ consts _ (by rw [List.length_set]; exact hv) hc
  · have := flat_len (wrOne b (r - 1)) 37 (wrStep a r [ofZ vals consts r]) (fun z hz => by
      obtain ⟨x, h1, h4, rfl⟩ := hw z hz
      exact (second_write vals consts a b r x hv hbv h2 h3 hb ⟨h1, h4⟩).1)
    omega
  · intro y hy
    obtain ⟨z, hz, hy⟩ := List.mem_flatMap.1 hy
    obtain ⟨x, h1, h4, rfl⟩ := hw z hz
    obtain ⟨y', rfl⟩ := (second_write vals consts a b r x hv hbv h2 h3 hb ⟨h1, h4⟩).2 y hy
    exact hsm _ _ (by rw [List.length_set, List.length_set])
theorem write_len (vals consts : List Int) (a b : Nat) (r : Int) (hok : WrOK r [(a : Int), (b : Int)] [ofZ vals consts r]) : (writeL r [(a : Int), (b : Int)] [ofZ vals consts r]).length ≤ 10000 := by
  obtain ⟨_, _, _, _, _, _, _, _, h, _⟩ := hok
  exact Nat.le_trans (uniqL_len _) h

end Go.Proofs.YtkkoooagamadjaaGreatDoor

namespace Go.Proofs.YtkkoooagamadjaaGreatDoor
open Go.RowKit

theorem bnd_ex : ∀ l : List Int, ∃ lo hi : Int, lo ≤ hi ∧ ∀ x ∈ l, lo ≤ x ∧ x ≤ hi
  | [] => ⟨0, 0, Int.le_refl _, fun x h => by cases h⟩
  | y :: l => by
    obtain ⟨lo, hi, h, H⟩ := bnd_ex l
    refine ⟨min lo y, max hi y, by omega, fun x hx => ?_⟩
    rcases List.mem_cons.1 hx with rfl | hx
    · omega
    · have := H x hx; omega

theorem stepZ_len2 (cl : List (Int × Int)) (gl : List Int) (a r : Int) (i K : Nat) (h1 : 1 ≤ r) (h2 : r ≤ 6) (hk : kap (r - 1) ≤ K) : (stepZ cl gl a r i).length ≤ 1 + (K + 1) * (K + 1) := by
  have hs : (splP (gl.getD i 0) r).length ≤ (K + 1) * (K + 1) := by
    unfold splP
    split
    · simp
    · refine Nat.le_trans (gridP_len _ _) ?_
      rw [show min r 20 - 1 = r - 1 by omega]
      exact Nat.mul_le_mul (by omega) (by omega)
  unfold stepZ
  rw [List.length_cons]
  split
  · rw [List.length_map]; omega
  · simp
theorem midZ_len2 (cl : List (Int × Int)) (gl : List Int) (a r : Int) (K k : Nat) (h1 : 1 ≤ r) (h2 : r ≤ 6) (hk : kap (r - 1) ≤ K) : (midZ cl gl a r k).length ≤ k * (1 + (K + 1) * (K + 1)) := by
  induction k with
  | zero => simp [midZ]
  | succ k ih =>
    rw [midZ_succ, List.length_append, Nat.succ_mul]
    exact Nat.add_le_add ih (stepZ_len2 cl gl a r k K h1 h2 hk)
theorem putL_len2 (cl : List (Int × Int)) (gl : List Int) (a r : Int) (K c : Nat) (h1 : 1 ≤ r) (h2 : r ≤ 6) (hk : kap (r - 1) ≤ K) (hc : cl.length ≤ c) : (putL cl gl a r).length ≤ 1 + 2 * (K + 1) + c * (1 + (K + 1) * (K + 1)) := by
  have hA : (putA cl gl a r).length ≤ 1 + 2 * (K + 1) + c * (1 + (K + 1) * (K + 1)) := by
    unfold putA
    split
    · simp; omega
    · rw [List.length_append, List.length_append, headZ_len, tailZ_len, List.length_reverse, outL_len' r h1]
      have m1 := midZ_len2 cl gl a r K cl.length h1 h2 hk
      have m3 : cl.length * (1 + (K + 1) * (K + 1)) ≤ c * (1 + (K + 1) * (K + 1)) := Nat.mul_le_mul_right _ hc
      omega
  unfold putL
  repeat' split
  all_goals first | exact hA | simp

theorem som_len (vals consts : List Int) (a : Nat) (r : Int) : (somZ vals consts a r).1.length ≤ vals.length + consts.length := by
  unfold somZ zoneZ othZ
  have h1 := sortS_len (consts ++ selZ vals (inZ vals.length [(a : Int)]) vals.length)
  have h2 := selZ_len vals (inZ vals.length [(a : Int)]) vals.length
  rw [List.length_append] at h1
  simp only [List.length_map]
  omega
/-- one write, of whatever numbers -/
theorem any_write (vals consts : List Int) (a : Nat) (r : Int) (hv : vals.length ≤ 4) (hc : consts.length ≤ 3) (ha : a < vals.length) (h1 : 1 ≤ r) (h3 : r ≤ 3) :
    (wrOne a r (ofZ vals consts r)).length ≤ 3 + 2 * kap (r - 1) + 7 * (1 + (kap (r - 1) + 1) * (kap (r - 1) + 1)) ∧ ∀ z ∈ wrOne a r (ofZ vals consts r), ∃ x, z = ofZ (vals.set a x) consts (r - 1) := by
  rw [wrOne_of vals consts a r (by omega)]
  refine ⟨?_, fun z hz => ?_⟩
  · have := putL_len2 (somZ vals consts a r).1 (somZ vals consts a r).2 a r (kap (r - 1)) 7 h1 (by omega) (Nat.le_refl _) (by have := som_len vals consts a r; omega)
    omega
  · obtain ⟨lo, hi, h0, hb⟩ := bnd_ex (othZ vals consts a)
    obtain ⟨x, _, _, e⟩ := true_comes vals consts a r lo hi (by omega) ha h1 (by omega) h0 hb z hz
    exact ⟨x, by rw [← e, allX_of]⟩
theorem order_ok (vals consts : List Int) (a b : Nat) (r : Int) (hv : vals.length ≤ 4) (hc : consts.length ≤ 3) (ha : a < vals.length) (hbv : b < vals.length) (h2 : 2 ≤ r) (h3 : r ≤ 3) : WrOK r [(a : Int), (b : Int)] [ofZ vals consts r] := by
  have hk := kap_w3 r h2 h3
  obtain ⟨f1, f2⟩ := any_write vals consts a r hv hc ha (by omega) h3
  have hf1 : (wrOne a r (ofZ vals consts r)).length ≤ 128 := by
    have : (kap (r - 1) + 1) * (kap (r - 1) + 1) ≤ 4 * 4 := Nat.mul_le_mul (by omega) (by omega)
    omega
  have e1 : [ofZ vals consts r].flatMap (wrOne a r) = wrOne a r (ofZ vals consts r) := by simp
  have hsm : ∀ (v : List Int) (q : Int), v.length = vals.length → SmallZ (ofZ v consts q) ∧ I64 (ofZ v consts q) := fun v q h => by
    have := ofZ_len v consts q
    exact ⟨⟨by omega, by omega⟩, ofZ_I64 v consts q (by omega)⟩
  have hw : ∀ z ∈ wrStep a r [ofZ vals consts r], ∃ x, z = ofZ (vals.set a x) consts (r - 1) := fun z hz => by
    unfold wrStep at hz
    rw [uniqL_mem, e1] at hz
    exact f2 z hz
  have hwl : (wrStep a r [ofZ vals consts r]).length ≤ 128 := by
    unfold wrStep
    rw [e1]
    exact Nat.le_trans (uniqL_len _) hf1
  have second : ∀ x, (wrOne b (r - 1) (ofZ (vals.set a x) consts (r - 1))).length ≤ 50 ∧ ∀ z ∈ wrOne b (r - 1) (ofZ (vals.set a x) consts (r - 1)), ∃ y, z = ofZ ((vals.set a x).set b y) consts (r - 2) := fun x => by
    obtain ⟨s1, s2⟩ := any_write (vals.set a x) consts b (r - 1) (by rw [List.length_set]; exact hv) hc (by rw [List.length_set]; exact hbv) (by omega) (by omega)
    rw [show r - 1 - 1 = r - 2 by omega] at s1 s2
    refine ⟨?_, s2⟩
    have : (kap (r - 2) + 1) * (kap (r - 2) + 1) ≤ 2 * 2 := Nat.mul_le_mul (by omega) (by omega)
    omega
  refine ⟨by omega, by simp, ?_, by rw [e1]; omega, ?_, by omega, by omega, ?_, ?_, ?_, trivial⟩
  · intro z hz
    rw [List.mem_singleton] at hz
    subst hz
    exact ofZ_small vals consts r hv hc
  · intro y hy
    rw [e1] at hy
    obtain ⟨x, rfl⟩ := f2 y hy
    exact hsm _ _ (List.length_set ..)
  · intro z hz
    obtain ⟨x, rfl⟩ := hw z hz
    exact ofZ_small _ consts _ (by rw [List.length_set]; exact hv) hc
  · have := flat_len (wrOne b (r - 1)) 50 (wrStep a r [ofZ vals consts r]) (fun z hz => by
      obtain ⟨x, rfl⟩ := hw z hz
      exact (second x).1)
    omega
  · intro y hy
    obtain ⟨z, hz, hy⟩ := List.mem_flatMap.1 hy
    obtain ⟨x, rfl⟩ := hw z hz
    obtain ⟨y', rfl⟩ := (second x).2 y hy
    exact hsm _ _ (by rw [List.length_set, List.length_set])

/-- which is written first is the same -/
theorem order_sub (vals consts : List Int) (a b : Nat) (r : Int) (hv : vals.length ≤ 4) (ha : a < vals.length) (hbv : b < vals.length) (hab : a ≠ b) (h2 : 2 ≤ r) (h3 : r ≤ 3) (z : Zn) (hz : z ∈ writeL r [(a : Int), (b : Int)] [ofZ vals consts r]) :
    z ∈ writeL r [(b : Int), (a : Int)] [ofZ vals consts r] ∧ ∃ v : List Int, v.length = vals.length ∧ z = ofZ v consts (r - 2) := by
  obtain ⟨lo, hi, h0, hb⟩ := bnd_ex (consts ++ vals)
  obtain ⟨x, y, _, _, e⟩ := write_comes vals consts a b r lo hi (by omega) ha hbv h2 (by omega) h0 hb z hz
  refine ⟨?_, _, ?_, e.symm⟩
  · rw [← e, List.set_comm _ _ hab]
    exact write_mem vals consts b a r (by omega) hbv ha h2 (by omega) y x
  · rw [List.length_set, List.length_set]
theorem order_len (vals consts : List Int) (a b : Nat) (r : Int) (hv : vals.length ≤ 4) (ha : a < vals.length) (hbv : b < vals.length) (hab : a ≠ b) (h2 : 2 ≤ r) (h3 : r ≤ 3) :
    (writeL r [(a : Int), (b : Int)] [ofZ vals consts r]).length = (writeL r [(b : Int), (a : Int)] [ofZ vals consts r]).length :=
  Nat.le_antisymm (nodup_sub_len _ _ (write_nodup _ _ _ _) fun z hz => (order_sub vals consts a b r hv ha hbv hab h2 h3 z hz).1)
    (nodup_sub_len _ _ (write_nodup _ _ _ _) fun z hz => (order_sub vals consts b a r hv hbv ha hab.symm h2 h3 z hz).1)

end Go.Proofs.YtkkoooagamadjaaGreatDoor

namespace Go.Proofs.YtkkoooagamadjaaGreatDoor
open Go.RowKit

/-- the gap ahead of a class that stays, where another one goes -/
def gapW (gl : List Int) (i : Nat) (r : Int) (k : Nat) : Int :=
  if k = i + 1 then klip (klip (gl.getD (i - 1) 0) r + klip (gl.getD i 0) r + 1) r else gl.getD (k - 1) 0
/-- what stands behind so many classes -/
def woS (cl : List (Int × Int)) (gl : List Int) (i : Nat) (r : Int) : Nat → Zn
  | 0 => ([], [])
  | k + 1 => if k = i then woS cl gl i r k else ((woS cl gl i r k).1 ++ [cl.getD k (0, -1)], if (woS cl gl i r k).1.length = 0 then (woS cl gl i r k).2 else (woS cl gl i r k).2 ++ [gapW gl i r k])
theorem woS_len (cl : List (Int × Int)) (gl : List Int) (i : Nat) (r : Int) (k : Nat) : (woS cl gl i r k).1.length = (if k ≤ i then k else k - 1) ∧ (woS cl gl i r k).2.length = (woS cl gl i r k).1.length - 1 := by
  induction k with
  | zero => simp [woS]
  | succ k ih =>
    obtain ⟨h1, h2⟩ := ih
    by_cases hk : k = i
    · rw [woS, if_pos hk]
      rw [if_pos (by omega)] at h1
      refine ⟨?_, h2⟩
      rw [if_neg (by omega)]; omega
    · rw [woS, if_neg hk]
      refine ⟨?_, ?_⟩
      · rw [List.length_append, h1]
        simp only [List.length_cons, List.length_nil]
        split <;> split <;> omega
      · rw [List.length_append]
        split
        · rename_i h0
          rw [h2, h0]; rfl
        · rename_i h0
          rw [List.length_append, h2]
          simp only [List.length_cons, List.length_nil]; omega
theorem woS_same (cl : List (Int × Int)) (gl : List Int) (i : Nat) (r : Int) : woS cl gl i r (i + 1) = woS cl gl i r i := by rw [woS, if_pos rfl]

/-- Drop, so many rounds, from a class on -/
def drpS (a r : Int) : Nat → Zn → Nat → Zn
  | 0, z, _ => z
  | f + 1, z, i =>
    if z.1.length ≤ i then z
    else if hasB (z.1.getD i (0, -1)).1 a = false then drpS a r f z (i + 1)
    else if putZ (z.1.getD i (0, -1)).1 a false = 0 ∧ (z.1.getD i (0, -1)).2 = -1 then drpS a r f (woS (z.1.set i (putZ (z.1.getD i (0, -1)).1 a false, (z.1.getD i (0, -1)).2)) z.2 i r z.1.length) i
    else drpS a r f (z.1.set i (putZ (z.1.getD i (0, -1)).1 a false, (z.1.getD i (0, -1)).2), z.2) (i + 1)
def drpZ (a r : Int) (z : Zn) : Zn := drpS a r z.1.length z 0

/-- a class where its place is known -/
theorem getD_cls {cl : List (Int × Int)} {i : Nat} {x y : Int} (h : cl[i]? = some (x, y)) : cl.getD i (0, -1) = (x, y) := by rw [List.getD_eq_getElem?_getD, h]; rfl

/-- classes in which the attribute is not stay -/
theorem drpS_none (a r : Int) (z : Zn) : ∀ (f i : Nat), (∀ j, i ≤ j → j < z.1.length → hasB (z.1.getD j (0, -1)).1 a = false) → drpS a r f z i = z := by
  intro f
  induction f with
  | zero => intro i _; rfl
  | succ f ih =>
    intro i h
    unfold drpS
    by_cases hl : z.1.length ≤ i
    · rw [if_pos hl]
    · rw [if_neg hl, if_pos (h i (Nat.le_refl _) (by omega))]
      exact ih (i + 1) (fun j h1 h2 => h j (by omega) h2)
/-- up to the class in which it is -/
theorem drpS_to (a r : Int) (z : Zn) : ∀ (d f i : Nat), (∀ j, i ≤ j → j < i + d → hasB (z.1.getD j (0, -1)).1 a = false) → i + d ≤ z.1.length → drpS a r (f + d) z i = drpS a r f z (i + d) := by
  intro d
  induction d with
  | zero => intro f i _ _; rfl
  | succ d ih =>
    intro f i h hl
    rw [show f + (d + 1) = (f + d) + 1 by omega]
    conv => lhs; unfold drpS
    rw [if_neg (by omega), if_pos (h i (Nat.le_refl _) (by omega)), ih f (i + 1) (fun j h1 h2 => h j (by omega) (by omega)) (by omega), show i + 1 + d = i + (d + 1) by omega]

theorem woS_cls (P R : List (Int × Int)) (c : Int × Int) (gl : List Int) (r : Int) (j : Nat) : j ≤ P.length + 1 + R.length → (woS (P ++ c :: R) gl P.length r j).1 = P.take j ++ R.take (j - (P.length + 1)) := by
  induction j with
  | zero => intro _; simp [woS]
  | succ j ih =>
    intro hj
    have ih := ih (by omega)
    unfold woS
    by_cases h : j = P.length
    · rw [if_pos h, ih, h]
      rw [List.take_of_length_le (Nat.le_refl _), List.take_of_length_le (Nat.le_succ _), show P.length - (P.length + 1) = 0 by omega, show P.length + 1 - (P.length + 1) = 0 by omega]
    · rw [if_neg h]
      dsimp only
      rw [ih]
      by_cases hlt : j < P.length
      · rw [show j - (P.length + 1) = 0 by omega, show j + 1 - (P.length + 1) = 0 by omega, List.take_zero, List.append_nil, List.append_nil, List.getD_eq_getElem?_getD, List.getElem?_append_left hlt, List.take_succ_eq_append_getElem hlt, List.getElem?_eq_getElem hlt]
        rfl
      · obtain ⟨m, hm⟩ : ∃ m, j = P.length + 1 + m := ⟨j - (P.length + 1), by omega⟩
        subst hm
        have hmR : m < R.length := by omega
        rw [List.take_of_length_le (by omega), List.take_of_length_le (by omega : P.length ≤ P.length + 1 + m + 1), show P.length + 1 + m - (P.length + 1) = m by omega, show P.length + 1 + m + 1 - (P.length + 1) = m + 1 by omega,
          List.getD_eq_getElem?_getD, List.getElem?_append_right (by omega), show P.length + 1 + m - P.length = m + 1 by omega, List.getElem?_cons_succ, List.getElem?_eq_getElem hmR, List.take_succ_eq_append_getElem hmR, List.append_assoc]
        rfl
/-- the gaps where they are one's own but for the class that goes -/
theorem woS_gaps (P R : List (Int × Int)) (c : Int × Int) (gl G : List Int) (r : Int) (h0 : 1 ≤ P.length → gl.take (P.length - 1) = G.take (P.length - 1)) (hG : G.length = P.length + R.length - 1) (hg : gl.length = P.length + R.length)
    (h1 : ∀ j, P.length + 2 ≤ j → j ≤ P.length + R.length → gl.getD (j - 1) 0 = G.getD (j - 2) 0)
    (h2 : 1 ≤ P.length → 1 ≤ R.length → klip (klip (gl.getD (P.length - 1) 0) r + klip (gl.getD P.length 0) r + 1) r = G.getD (P.length - 1) 0) (j : Nat) (hj : j ≤ P.length + 1 + R.length) :
    (woS (P ++ c :: R) gl P.length r j).2 = if j ≤ P.length then gl.take (j - 1) else G.take (j - 2) := by
  induction j with
  | zero => simp [woS]
  | succ j ih =>
    have ih := ih (by omega)
    obtain ⟨l1, l2⟩ := woS_len (P ++ c :: R) gl P.length r j
    unfold woS
    by_cases h : j = P.length
    · rw [if_pos h, ih, if_pos (by omega), if_neg (by omega), h]
      by_cases hp : 1 ≤ P.length
      · rw [h0 hp]; congr 1
      · rw [show P.length = 0 by omega]; rfl
    · rw [if_neg h]
      dsimp only
      rw [l1, ih]
      by_cases hlt : j < P.length
      · simp only [if_pos (show j ≤ P.length by omega), if_pos (show j + 1 ≤ P.length by omega)]
        by_cases hj0 : j = 0
        · rw [if_pos hj0, hj0]
        · rw [if_neg hj0]
          have hjg : j - 1 < gl.length := by omega
          rw [show j + 1 - 1 = (j - 1) + 1 by omega, List.take_succ_eq_append_getElem hjg]
          unfold gapW
          rw [if_neg (by omega), List.getD_eq_getElem?_getD, List.getElem?_eq_getElem hjg]
          rfl
      · simp only [if_neg (show ¬ j ≤ P.length by omega), if_neg (show ¬ j + 1 ≤ P.length by omega)]
        by_cases hj1 : j - 1 = 0
        · rw [if_pos hj1]
          have : j = 1 := by omega
          subst this
          rfl
        · rw [if_neg hj1]
          have hjG : j - 2 < G.length := by omega
          rw [show j + 1 - 2 = (j - 2) + 1 by omega, List.take_succ_eq_append_getElem hjG]
          congr 1
          unfold gapW
          by_cases hjp : j = P.length + 1
          · rw [if_pos hjp, h2 (by omega) (by omega), List.getD_eq_getElem?_getD, show P.length - 1 = j - 2 by omega, List.getElem?_eq_getElem hjG]
            rfl
          · rw [if_neg hjp, h1 j (by omega) (by omega), List.getD_eq_getElem?_getD, List.getElem?_eq_getElem hjG]
            rfl
theorem woS_all (P R : List (Int × Int)) (c : Int × Int) (gl G : List Int) (r : Int) (h0 : 1 ≤ P.length → gl.take (P.length - 1) = G.take (P.length - 1)) (hG : G.length = P.length + R.length - 1) (hg : gl.length = P.length + R.length)
    (h1 : ∀ j, P.length + 2 ≤ j → j ≤ P.length + R.length → gl.getD (j - 1) 0 = G.getD (j - 2) 0)
    (h2 : 1 ≤ P.length → 1 ≤ R.length → klip (klip (gl.getD (P.length - 1) 0) r + klip (gl.getD P.length 0) r + 1) r = G.getD (P.length - 1) 0) :
    woS (P ++ c :: R) gl P.length r (P.length + 1 + R.length) = (P ++ R, G) := by
  have e1 := woS_cls P R c gl r (P.length + 1 + R.length) (Nat.le_refl _)
  have e2 := woS_gaps P R c gl G r h0 hG hg h1 h2 (P.length + 1 + R.length) (Nat.le_refl _)
  rw [List.take_of_length_le (by omega), List.take_of_length_le (by omega)] at e1
  rw [if_neg (by omega), List.take_of_length_le (by omega)] at e2
  exact Prod.ext e1 e2

end Go.Proofs.YtkkoooagamadjaaGreatDoor

namespace Go.Proofs.YtkkoooagamadjaaGreatDoor
open Go.RowKit Go.Shelf

theorem ZoneAt.first {W : World} {base : Nat} {c1 c2 : Value} {cl : List (Int × Int)} {gl : List Int} (h : ZoneAt W base c1 c2 cl gl) {k : Nat} {x y : Int} (hk : cl[k]? = some (x, y)) :
    ∃ g cap, c1 = .slice (some ⟨g, 0, none⟩) cl.length cap ∧ g < W.heap.size ∧ W.cell? ⟨g, k * 2, none⟩ = some (.int .i64 x) := by
  have hkl := (List.getElem?_eq_some_iff.1 hk).1
  obtain ⟨g, cap, rfl, _, hg⟩ := owns_shape h.1 (by omega)
  exact ⟨g, cap, rfl, hg, by rw [h.1.cellAt _ (by omega)]; exact (cellsP_get _ _ _ hk).1⟩

end Go.Proofs.YtkkoooagamadjaaGreatDoor

namespace Go.Proofs.YtkkoooagamadjaaGreatDoor
open Go.RowKit Go.Shelf

def sitsZ (cl : List (Int × Int)) (a : Int) : Nat := (cl.filter fun c => hasB c.1 a).length
theorem sitsZ_take (cl : List (Int × Int)) (a : Int) (k : Nat) (x y : Int) (h : cl[k]? = some (x, y)) : sitsZ (cl.take (k + 1)) a = sitsZ (cl.take k) a + (if hasB x a = true then 1 else 0) := by
  obtain ⟨h1, h2⟩ := List.getElem?_eq_some_iff.1 h
  unfold sitsZ
  rw [List.take_succ_eq_append_getElem h1, List.filter_append, List.length_append, h2]
  simp only [List.filter_cons, List.filter_nil]
  split <;> simp
theorem sitsZ_le (cl : List (Int × Int)) (a : Int) : sitsZ cl a ≤ cl.length := List.length_filter_le _ _

end Go.Proofs.YtkkoooagamadjaaGreatDoor

namespace Go.Proofs.YtkkoooagamadjaaGreatDoor
open Go.RowKit Go.Shelf

def sitsB (cl : List (Int × Int)) (n : Int) (k : Nat) : Bool := (List.range k).all fun a => decide (sitsZ cl a = if (a : Int) < n then 1 else 0)
theorem sitsB_succ (cl : List (Int × Int)) (n : Int) (k : Nat) : sitsB cl n (k + 1) = (sitsB cl n k && decide (sitsZ cl k = if (k : Int) < n then 1 else 0)) := by simp [sitsB, List.range_succ, List.all_append]
def stepC (x y : Int) (q : Nat) : Bool := decide (0 ≤ x) && decide (x < 2147483648) && (decide (0 < x) || decide (0 ≤ y)) && (decide (y = -1) || decide (y = (q : Int)))
theorem stepC_is (x y : Int) (q : Nat) : stepC x y q = decide (0 ≤ x ∧ x < 2147483648 ∧ (0 < x ∨ 0 ≤ y) ∧ (y = -1 ∨ y = (q : Int))) := by
  rw [Bool.eq_iff_iff]; simp [stepC, and_assoc]
def clsF (cl : List (Int × Int)) : Bool × Nat := cl.foldl (fun s c => (s.1 && stepC c.1 c.2 s.2, if c.2 = -1 then s.2 else s.2 + 1)) (true, 0)
theorem clsF_take (cl : List (Int × Int)) (k : Nat) (x y : Int) (h : cl[k]? = some (x, y)) : clsF (cl.take (k + 1)) = ((clsF (cl.take k)).1 && stepC x y (clsF (cl.take k)).2, if y = -1 then (clsF (cl.take k)).2 else (clsF (cl.take k)).2 + 1) := by
  obtain ⟨h1, h2⟩ := List.getElem?_eq_some_iff.1 h
  unfold clsF
  rw [List.take_succ_eq_append_getElem h1, List.foldl_append, h2]
  rfl
theorem clsF_le (cl : List (Int × Int)) (k : Nat) : (clsF (cl.take k)).2 ≤ k := by
  induction k with
  | zero => simp [clsF]
  | succ k ih =>
    by_cases hk : k < cl.length
    · rw [clsF_take cl k (cl[k]).1 (cl[k]).2 (List.getElem?_eq_getElem hk)]
      dsimp only
      split <;> omega
    · rw [List.take_of_length_le (by omega)]
      rw [List.take_of_length_le (by omega)] at ih
      omega
def classesZ (cl : List (Int × Int)) (n m : Int) : Bool := (sitsB cl n 31 && (clsF cl).1) && decide (((clsF cl).2 : Int) = m)

end Go.Proofs.YtkkoooagamadjaaGreatDoor

namespace Go.Proofs.YtkkoooagamadjaaGreatDoor
open Go.RowKit Go.Shelf

/-- so many gaps from a place on -/
def cutP (gl : List Int) (p k : Nat) : List Int := (gl.drop p).take k
theorem cutP_succ (gl : List Int) (p k : Nat) (g : Int) (h : gl[p + k]? = some g) : cutP gl p (k + 1) = cutP gl p k ++ [g] := by
  obtain ⟨h1, h2⟩ := List.getElem?_eq_some_iff.1 h
  unfold cutP
  have hl : k < (gl.drop p).length := by rw [List.length_drop]; omega
  rw [List.take_succ_eq_append_getElem hl, List.getElem_drop, h2]
theorem cutP_sum (gl : List Int) (p k : Nat) (hg : ∀ g ∈ gl, 0 ≤ g ∧ g ≤ 1000) : 0 ≤ (cutP gl p k).sum ∧ (cutP gl p k).sum ≤ 1000 * k := by
  have key : ∀ (l : List Int), (∀ g ∈ l, 0 ≤ g ∧ g ≤ 1000) → 0 ≤ l.sum ∧ l.sum ≤ 1000 * l.length := by
    intro l
    induction l with
    | nil => intro _; simp
    | cons a t ih =>
      intro h
      have h1 := h a (by simp)
      have h2 := ih (fun g hg => h g (List.mem_cons_of_mem _ hg))
      rw [List.sum_cons, List.length_cons]
      omega
  have h := key (cutP gl p k) (fun g hg' => hg g (List.mem_of_mem_drop (List.mem_of_mem_take hg')))
  have hl : (cutP gl p k).length ≤ k := List.length_take_le _ _
  omega
def sumP (gl : List Int) (p q : Nat) : Int := ((q : Int) - p - 1) + (cutP gl p (q - p)).sum
def fitsB (gl : List Int) (p q : Nat) (cap a b : Int) : Bool :=
  (gapZ a b (sumP gl p q + 1) == sumP gl p q) || ((cutP gl p (q - p)).any (fun g => g == cap) && decide (sumP gl p q < gapZ a b (sumP gl p q + 1)))

end Go.Proofs.YtkkoooagamadjaaGreatDoor

namespace Go.Proofs.YtkkoooagamadjaaGreatDoor
open Go.RowKit

set_option maxHeartbeats 1000000 in
theorem gap_any (a b : Int) (m : Nat) (w : World) (ha : In64 a) (hb : In64 b) (hm : m ≤ 2097151) :
    Calls Tryz.prog 18 #[.int .i64 a, .int .i64 b, .int .i64 m] w fun e w' => e = .returned (.int .i64 (gapZ a b m)) ∧ w = w' := by
  unfold In64 at ha hb
  go_enter Tryz.func18, Tryz.ntmps18
  by_cases h0 : m = 0
  · subst h0
    have H : Hid (gapZ a b (0 : Nat) = 0) := by unfold Hid gapZ; omega
    go_wp2_with fail
    go_ret
    exact ⟨ret_int H.out.symm, rfl⟩
  · have p0 : ¬ (m : Int) ≤ 0 := by omega
    by_cases h1 : b ≤ a
    · have H : Hid (gapZ a b m = 0) := by unfold Hid gapZ; omega
      go_wp2_with fail
      go_ret
      exact ⟨ret_int H.out.symm, rfl⟩
    · obtain ⟨A, hA⟩ : ∃ A, IntKind.u64.wrap a = A := ⟨_, rfl⟩
      obtain ⟨B, hB⟩ : ∃ B, IntKind.u64.wrap b = B := ⟨_, rfl⟩
      obtain ⟨D, hD⟩ : ∃ D : Nat, b - a - 1 = D := ⟨(b - a - 1).toNat, by omega⟩
      have h2 : IntKind.u64.wrap (B - A) = ((D + 1 : Nat) : Int) := by
        rw [← hA, ← hB, IntKind.wrap_u64, IntKind.wrap_u64, IntKind.wrap_u64]; omega
      have h3 : IntKind.u64.wrap (((D + 1 : Nat) : Int) - 1) = (D : Int) := by rw [IntKind.wrap_u64]; omega
      have h4 : IntKind.u64.wrap (m : Int) = (m : Int) := by rw [IntKind.wrap_u64]; omega
      obtain ⟨E, hE⟩ : ∃ E : Nat, D + 1 = E := ⟨_, rfl⟩
      rw [hE] at h2 h3
      have HE := Lib.hid hE
      by_cases hle : D ≤ m
      · have H : Hid (gapZ a b m = (D : Int)) := by unfold Hid gapZ; omega
        have hle1 : (D : Int) ≤ (m : Int) := by omega
        have hle2 : ¬ (m : Int) < (D : Int) := by omega
        have hw : IntKind.i64.wrap (D : Int) = (D : Int) := by rw [IntKind.wrap_i64]; omega
        clear hD hE hle
        go_wp2_with fail
        go_ret
        exact ⟨ret_int (by have := H.out; omega), rfl⟩
      · have H : Hid (gapZ a b m = (m : Int)) := by unfold Hid gapZ; omega
        have hle1 : (m : Int) < (D : Int) := by omega
        have hw : IntKind.i64.wrap (m : Int) = (m : Int) := by rw [IntKind.wrap_i64]; omega
        clear hD hE hle
        go_wp2_with fail
        go_ret
        exact ⟨ret_int (by have := H.out; omega), rfl⟩

end Go.Proofs.YtkkoooagamadjaaGreatDoor
