/- Plain laws of the splits of a gap: which pairs they are, in order, each once; no program in sight. -/
import Derived.Test.YtjmggphnngffjaaHalveSort
namespace Go.Proofs.Ytjmggphnngffjaa
open Go.RowKit

def rowP (p : Int × Int → Bool) (a k : Nat) : List (Int × Int) := ((List.range k).map fun b : Nat => ((a : Int), (b : Int))).filter p
def gridK (p : Int × Int → Bool) (h k : Nat) : List (Int × Int) := (List.range k).flatMap fun a => rowP p a (h + 1)
def gridP (h : Nat) (p : Int × Int → Bool) : List (Int × Int) := gridK p h (h + 1)

theorem rowP_succ (p : Int × Int → Bool) (a k : Nat) : rowP p a (k + 1) = rowP p a k ++ if p (a, k) then [((a : Int), (k : Int))] else [] := by
  unfold rowP
  rw [List.range_succ, List.map_append, List.filter_append]
  congr 1
  by_cases h : p (a, k) = true
  · simp [h]
  · simp [h]
theorem gridK_succ (p : Int × Int → Bool) (h k : Nat) : gridK p h (k + 1) = gridK p h k ++ rowP p k (h + 1) := by
  unfold gridK; rw [List.range_succ, List.flatMap_append]; simp

theorem mem_rowP (p : Int × Int → Bool) (a k : Nat) (x : Int × Int) : x ∈ rowP p a k ↔ (∃ b : Nat, b < k ∧ x = ((a : Int), (b : Int))) ∧ p x = true := by
  unfold rowP
  rw [List.mem_filter, List.mem_map]
  constructor
  · rintro ⟨⟨b, hb, rfl⟩, hp⟩; exact ⟨⟨b, by simpa using hb, rfl⟩, hp⟩
  · rintro ⟨⟨b, hb, rfl⟩, hp⟩; exact ⟨⟨b, by simpa using hb, rfl⟩, hp⟩
theorem mem_gridP (p : Int × Int → Bool) (h : Nat) (x : Int × Int) : x ∈ gridP h p ↔ (∃ a b : Nat, a ≤ h ∧ b ≤ h ∧ x = ((a : Int), (b : Int))) ∧ p x = true := by
  unfold gridP gridK
  rw [List.mem_flatMap]
  constructor
  · rintro ⟨a, ha, hx⟩
    obtain ⟨⟨b, hb, rfl⟩, hp⟩ := (mem_rowP p a _ x).1 hx
    exact ⟨⟨a, b, by simp at ha; omega, by omega, rfl⟩, hp⟩
  · rintro ⟨⟨a, b, ha, hb, rfl⟩, hp⟩
    exact ⟨a, by simp; omega, (mem_rowP p a _ _).2 ⟨⟨b, by omega, rfl⟩, hp⟩⟩

theorem rowP_sorted (p : Int × Int → Bool) (a k : Nat) : (rowP p a k).Pairwise ltP := by
  unfold rowP
  apply List.Pairwise.filter
  rw [List.pairwise_map]
  exact List.pairwise_lt_range.imp fun h => .inr ⟨rfl, by simpa using h⟩
theorem gridP_sorted (h : Nat) (p : Int × Int → Bool) : (gridP h p).Pairwise ltP := by
  unfold gridP gridK
  generalize h + 1 = k
  have : ∀ m : Nat, ((List.range m).flatMap fun a => rowP p a k).Pairwise ltP := by
    intro m
    induction m with
    | zero => simp
    | succ m ih =>
      rw [List.range_succ, List.flatMap_append]
      refine List.pairwise_append.2 ⟨ih, by simpa using rowP_sorted p m k, fun x hx y hy => ?_⟩
      obtain ⟨a, ha, hx'⟩ := List.mem_flatMap.1 hx
      obtain ⟨⟨b, _, rfl⟩, _⟩ := (mem_rowP p a k x).1 hx'
      simp only [List.flatMap_cons, List.flatMap_nil, List.append_nil] at hy
      obtain ⟨⟨b', _, rfl⟩, _⟩ := (mem_rowP p m k y).1 hy
      simp at ha
      exact .inl (by simpa using ha)
  exact this k

theorem ltP_irrefl (a : Int × Int) : ¬ ltP a a := by unfold ltP; omega
theorem ltP_asymm {a b : Int × Int} (h : ltP a b) : ¬ ltP b a := by unfold ltP at *; omega
theorem sorted_uniq : ∀ {l m : List (Int × Int)}, l.Pairwise ltP → m.Pairwise ltP → (∀ x, x ∈ l ↔ x ∈ m) → l = m
  | [], [], _, _, _ => rfl
  | [], b :: m, _, _, h => by have := (h b).2 (by simp); simp at this
  | a :: l, [], _, _, h => by have := (h a).1 (by simp); simp at this
  | a :: l, b :: m, hl, hm, h => by
    obtain ⟨la, ll⟩ := List.pairwise_cons.1 hl
    obtain ⟨mb, mm⟩ := List.pairwise_cons.1 hm
    have e : a = b := by
      rcases List.mem_cons.1 ((h a).1 (by simp)) with e | h1
      · exact e
      · rcases List.mem_cons.1 ((h b).2 (by simp)) with e | h2
        · exact e.symm
        · exact absurd (la b h2) (ltP_asymm (mb a h1))
    subst e
    rw [sorted_uniq ll mm fun x => ?_]
    constructor
    · intro hx
      rcases List.mem_cons.1 ((h x).1 (List.mem_cons_of_mem _ hx)) with e | h1
      · subst e; exact absurd (la x hx) (ltP_irrefl x)
      · exact h1
    · intro hx
      rcases List.mem_cons.1 ((h x).2 (List.mem_cons_of_mem _ hx)) with e | h1
      · subst e; exact absurd (mb x hx) (ltP_irrefl x)
      · exact h1

theorem sort_grid {xs l' : List (Int × Int)} {h : Nat} {p : Int × Int → Bool} (hs : SortP (firstsP xs) l') (hm : ∀ x, x ∈ xs ↔ x ∈ gridP h p) : l' = gridP h p := by
  refine sorted_uniq ?_ (gridP_sorted h p) fun x => ?_
  · have hn : l'.Nodup := hs.1.symm.nodup (firstsP_nodup xs)
    refine (hs.2.and hn).imp fun {a b} hab => ?_
    obtain ⟨h1, h2⟩ := hab
    unfold leP at *
    have : ¬ (a.1 = b.1 ∧ a.2 = b.2) := fun e => h2 (Prod.ext e.1 e.2)
    unfold ltP; omega
  · rw [hs.1.mem_iff, firstsP_mem, hm]

theorem adj_mem (l : List (Int × Int)) (h : ((-1, -1) : Int × Int) ∉ l) (x : Int × Int) : x ∈ adj l ↔ x ∈ l := by
  induction l using snoc_ind generalizing x with
  | h0 => simp [adj]
  | h1 l p ih =>
    have hl : ((-1, -1) : Int × Int) ∉ l := fun hc => h (by simp [hc])
    have hp : p ≠ (-1, -1) := fun hc => h (by simp [hc])
    rw [adj_snoc]
    unfold adjA
    split
    · rename_i hlast
      rw [ih hl]
      simp only [List.mem_append, List.mem_singleton]
      constructor
      · exact .inl
      · rintro (h1 | rfl)
        · exact h1
        · rw [← ih hl]
          unfold lastP at hlast
          cases hg : (adj l).getLast? with
          | none => rw [hg] at hlast; exact absurd hlast.symm hp
          | some y =>
            rw [hg] at hlast
            simp at hlast; subst hlast
            exact List.mem_of_getLast? hg
    · simp [ih hl]
theorem adj_len (l : List (Int × Int)) : (adj l).length ≤ l.length := by
  induction l using snoc_ind with
  | h0 => simp [adj]
  | h1 l p ih => rw [adj_snoc]; unfold adjA; split <;> simp <;> omega

theorem rawP_len (c h : Nat) (f : Bool) : (rawP c h f).length ≤ c + h + 1 := by
  unfold rawP; cases f <;> simp <;> omega

/-- what the program's splits are made of -/
theorem raw_full (h : Nat) (x : Int × Int) : x ∈ rawP (2 * h + 1) h true ↔ (∃ a : Nat, a < h ∧ x = ((a : Int), (h : Int))) ∨ ∃ b : Nat, b ≤ h ∧ x = ((h : Int), (b : Int)) := by
  unfold rawP
  simp only [if_true, List.mem_append, List.mem_map, List.mem_range]
  constructor
  · rintro (⟨a, ha, rfl⟩ | ⟨b, hb, rfl⟩)
    · exact .inl ⟨a, by omega, by unfold ptP P.lim; ext <;> simp <;> omega⟩
    · exact .inr ⟨b, by omega, by unfold P.lim; ext <;> simp <;> omega⟩
  · rintro (⟨a, ha, rfl⟩ | ⟨b, hb, rfl⟩)
    · exact .inl ⟨a, by omega, by unfold ptP P.lim; ext <;> simp <;> omega⟩
    · exact .inr ⟨b, by omega, by unfold P.lim; ext <;> simp <;> omega⟩
theorem true_full (h n : Nat) (hn : 2 * h + 1 ≤ n) (x : Int × Int) : x ∈ (List.range n).map (ptP n h) ↔ (∃ a : Nat, a < h ∧ x = ((a : Int), (h : Int))) ∨ ∃ b : Nat, b ≤ h ∧ x = ((h : Int), (b : Int)) := by
  simp only [List.mem_map, List.mem_range]
  constructor
  · rintro ⟨a, ha, rfl⟩
    by_cases hah : a < h
    · exact .inl ⟨a, hah, by unfold ptP P.lim; ext <;> simp <;> omega⟩
    · refine .inr ⟨min (n - 1 - a) h, by omega, by unfold ptP P.lim; ext <;> simp <;> omega⟩
  · rintro (⟨a, ha, rfl⟩ | ⟨b, hb, rfl⟩)
    · exact ⟨a, by omega, by unfold ptP P.lim; ext <;> simp <;> omega⟩
    · exact ⟨n - 1 - b, by omega, by unfold ptP P.lim; ext <;> simp <;> omega⟩
theorem raw_part (c h : Nat) (x : Int × Int) : x ∈ rawP c h false ↔ x ∈ (List.range c).map (ptP c h) := by
  unfold rawP
  simp only [Bool.false_eq_true, if_false, List.mem_append, List.mem_map, List.mem_range]
  constructor
  · rintro (⟨a, ha, rfl⟩ | ⟨k, hk, rfl⟩)
    · exact ⟨a, by omega, rfl⟩
    · exact ⟨h + k, by omega, rfl⟩
  · rintro ⟨a, ha, rfl⟩
    by_cases hah : a < h
    · exact .inl ⟨a, by omega, rfl⟩
    · exact .inr ⟨a - h, by omega, by rw [show h + (a - h) = a by omega]⟩

theorem pt_box (c h a : Nat) (ha : a < c) : ∃ u v : Nat, u ≤ h ∧ v ≤ h ∧ ptP c h a = ((u : Int), (v : Int)) :=
  ⟨min a h, min (c - 1 - a) h, by omega, by omega, by unfold ptP P.lim; ext <;> simp <;> omega⟩
theorem raw_box (c h : Nat) (f : Bool) (x : Int × Int) (hx : x ∈ rawP c h f) : ∃ u v : Nat, u ≤ h ∧ v ≤ h ∧ x = ((u : Int), (v : Int)) := by
  cases f
  · obtain ⟨a, ha, rfl⟩ := List.mem_map.1 ((raw_part c h x).1 hx)
    exact pt_box c h a (by simpa using ha)
  · unfold rawP at hx
    simp only [if_true, List.mem_append, List.mem_map, List.mem_range] at hx
    rcases hx with ⟨a, ha, rfl⟩ | ⟨b, hb, rfl⟩
    · exact pt_box c h a (by omega)
    · exact ⟨h, b, by omega, by omega, by unfold P.lim; ext <;> simp <;> omega⟩

/-- the program's splits -/
def splP (g r : Int) : List (Int × Int) :=
  if r < 1 ∨ g < 1 then []
  else gridP (kap (min r 20 - 1)) fun x => decide (x ∈ rawP (klip g r).toNat (kap (min r 20 - 1)) (!decide ((klip g r).toNat < kap (min r 20))))

theorem splP_raw {g r : Int} (hr : 1 ≤ r) (hg : 1 ≤ g) {c h kr : Nat} (hc : klip g r = c) (hh : kap (min r 20 - 1) = h) (hkr : kap (min r 20) = kr) {l' : List (Int × Int)} (hs : SortP (firstsP (adj (rawP c h (!decide (c < kr))))) l') : l' = splP g r := by
  unfold splP
  rw [if_neg (by omega), hh, hkr, show (klip g r).toNat = c by omega]
  refine sort_grid hs fun x => ?_
  rw [adj_mem _ (fun hc => by obtain ⟨u, v, _, _, e⟩ := raw_box _ _ _ _ hc; simp at e), mem_gridP]
  constructor
  · intro hx
    exact ⟨raw_box _ _ _ _ hx, by simpa using hx⟩
  · rintro ⟨_, hx⟩; simpa using hx

/-- the document's capped splits of a gap -/
def truP (g : Int) (r : Int) : List (Int × Int) := firstsP ((List.range g.toNat).map (ptP g (kap (r - 1))))
theorem truP_mem (n : Nat) (r : Int) (x : Int × Int) : x ∈ truP n r ↔ x ∈ (List.range n).map (ptP n (kap (r - 1))) := by
  unfold truP; rw [firstsP_mem]; simp

def refP (g r : Int) : List (Int × Int) :=
  if r < 1 ∨ g < 1 then []
  else gridP (kap (r - 1)) fun x => decide (x ∈ truP (if klip g r = kap r then 3 * klip g r + 3 else klip g r) r)

theorem kap_dbl (r : Int) (h0 : 1 ≤ r) (h1 : r ≤ 20) : kap r = 2 * kap (r - 1) + 1 := by
  obtain ⟨k, hk⟩ : ∃ k : Nat, r - 1 = k := ⟨(r - 1).toNat, by omega⟩
  have := kap_succ k (by omega)
  rw [hk, ← this]; congr 1; omega

theorem gridP_congr (h : Nat) (p q : Int × Int → Bool) (hpq : ∀ x, p x = true ↔ q x = true) : gridP h p = gridP h q :=
  sorted_uniq (gridP_sorted h p) (gridP_sorted h q) fun x => by rw [mem_gridP, mem_gridP, hpq]

theorem spl_ref (g r : Int) (h1 : r ≤ 20) : splP g r = refP g r := by
  unfold splP refP
  by_cases h0 : r < 1 ∨ g < 1
  · rw [if_pos h0, if_pos h0]
  · rw [if_neg h0, if_neg h0, show min r 20 = r by omega]
    have hk := kap_dbl r (by omega) h1
    obtain ⟨b0, b1, _⟩ := klip_bd g r
    obtain ⟨c, hc⟩ : ∃ c : Nat, klip g r = c := ⟨(klip g r).toNat, by omega⟩
    rw [hc] at b1 ⊢
    refine gridP_congr _ _ _ fun x => ?_
    rw [decide_eq_true_iff, decide_eq_true_iff, Int.toNat_natCast]
    by_cases hf : c < kap r
    · rw [decide_eq_true hf, if_neg (by omega)]
      rw [truP_mem]; exact raw_part _ _ _
    · have hcc : c = kap r := by omega
      rw [decide_eq_false hf, if_pos (by omega)]
      have e : (3 * (c : Int) + 3) = ((3 * c + 3 : Nat) : Int) := by omega
      rw [e, truP_mem, true_full _ _ (by omega)]
      rw [hcc, hk]
      exact raw_full _ _

/-- the capped splits of a gap are those of its clipped one -/
theorem spl_true_mem (g r : Int) (h0 : 1 ≤ r) (h1 : r ≤ 20) (hg : 0 ≤ g) (x : Int × Int) : x ∈ splP (klip g r) r ↔ x ∈ truP g r := by
  obtain ⟨b0, b1, _⟩ := klip_bd g r
  have hk := kap_dbl r h0 h1
  obtain ⟨n, hn⟩ : ∃ n : Nat, g = n := ⟨g.toNat, by omega⟩
  subst hn
  rw [truP_mem]
  by_cases hz : n = 0
  · subst hz
    have : klip ((0 : Nat) : Int) r = 0 := by unfold klip; omega
    rw [this]; unfold splP; simp
  · have hp : 1 ≤ kap r := by omega
    have hc1 : 1 ≤ klip n r := by unfold klip; omega
    obtain ⟨c, hc⟩ : ∃ c : Nat, klip n r = c := ⟨(klip n r).toNat, by omega⟩
    have hcc : klip (c : Int) r = c := by rw [← hc]; unfold klip at *; omega
    unfold splP
    rw [hc, if_neg (by omega), hcc, show min r 20 = r by omega, mem_gridP, decide_eq_true_iff, Int.toNat_natCast]
    have key : x ∈ rawP c (kap (r - 1)) (!decide (c < kap r)) ↔ x ∈ (List.range n).map (ptP n (kap (r - 1))) := by
      by_cases hf : c < kap r
      · have : c = n := by unfold klip at hc; omega
        subst this
        rw [decide_eq_true hf]; exact raw_part _ _ _
      · have hcc : c = kap r := by unfold klip at hc; omega
        rw [decide_eq_false hf, true_full _ _ (by unfold klip at hc; omega), hcc, hk]
        exact raw_full _ _
    rw [← key]
    constructor
    · rintro ⟨_, h⟩; exact h
    · intro h; exact ⟨raw_box _ _ _ _ h, h⟩

theorem spl_true_len (g r : Int) (h0 : 1 ≤ r) (h1 : r ≤ 20) (hg : 0 ≤ g) : (splP (klip g r) r).length = (truP g r).length := by
  have n1 : (splP (klip g r) r).Nodup := by
    unfold splP; split
    · simp
    · exact (gridP_sorted _ _).imp fun {a b} h e => by subst e; exact ltP_irrefl _ h
  have n2 : (truP g r).Nodup := firstsP_nodup _
  exact ((List.perm_ext_iff_of_nodup n1 n2).2 (spl_true_mem g r h0 h1 hg)).length_eq

end Go.Proofs.Ytjmggphnngffjaa
