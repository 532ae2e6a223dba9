/- Zones of numbers in the laws of chapter 23. A zone's text tells the zone: plain. Same of warderref22: of any two zones. Has of warderlaw24. Write: plain: zones each once, zones behind what is written. -/
import Derived.Test.YtkkoooagamadjaaGreatDoorPk25
import Derived.Test.YtkkoooagamadjaaGreatDoorPk01
import Derived.Lib.Join
import Derived.Lib.ItoaNum
import Derived.Test.YtkkoooagamadjaaGreatDoorPk22
import Derived.Test.YtkkoooagamadjaaGreatDoorPk24

namespace Go.Proofs.YtkkoooagamadjaaGreatDoor
open Go.RowKit

/-- the zone that Of makes of numbers -/
def ofZ (vals consts : List Int) (r : Int) : List (Int × Int) × List Int := zoneZ (pZ vals) vals.length (sortS consts) (sortS (vals ++ consts)) (kap r)
def someZ (vals : List Int) (inn : List Bool) (consts : List Int) (r : Int) : List (Int × Int) × List Int := zoneZ (pS vals inn) vals.length (sortS consts) (sortS (consts ++ selZ vals inn vals.length)) (kap r)
theorem ofZ_len (vals consts : List Int) (r : Int) : (ofZ vals consts r).1.length ≤ vals.length + consts.length ∧ (ofZ vals consts r).2.length ≤ vals.length + consts.length := by
  have h := sortS_len (vals ++ consts)
  rw [List.length_append] at h
  unfold ofZ zoneZ
  dsimp only
  rw [List.length_map, gapsZ_len]
  omega
theorem someZ_len (vals : List Int) (inn : List Bool) (consts : List Int) (r : Int) : (someZ vals inn consts r).1.length ≤ vals.length + consts.length ∧ (someZ vals inn consts r).2.length ≤ vals.length + consts.length := by
  have h := sortS_len (consts ++ selZ vals inn vals.length)
  have h2 := selZ_len vals inn vals.length
  rw [List.length_append] at h
  unfold someZ zoneZ
  dsimp only
  rw [List.length_map, gapsZ_len]
  omega

/-- a zone's result whose slices are seen -/
theorem zone_shape {w : World} {base : Nat} {v1 v2 : Value} {cl : List (Int × Int)} {gl : List Int} (h : ZoneAt w base v1 v2 cl gl) : ∃ a1 c1 a2 c2, v1 = .slice a1 cl.length c1 ∧ v2 = .slice a2 gl.length c2 := by
  obtain ⟨a1, c1, rfl⟩ := owns_len h.1
  obtain ⟨a2, c2, rfl⟩ := owns_len h.2
  exact ⟨_, _, _, _, rfl, rfl⟩

end Go.Proofs.YtkkoooagamadjaaGreatDoor

namespace Go.Proofs.YtkkoooagamadjaaGreatDoor
open Go.RowKit

/-- a number off its digits -/
def undec (l : List UInt8) : Nat := l.foldl (fun n b => n * 10 + (b.toNat - 48)) 0
theorem digit_nat (d : Nat) (h : d < 10) : (UInt8.ofNat (48 + d)).toNat = 48 + d := by
  rw [UInt8.toNat_ofNat']; omega
theorem undec_dec (u : Nat) : undec (Lib.decDigits u) = u := by
  induction u using Nat.strongRecOn with
  | ind u ih =>
    rw [Lib.decDigits]
    split
    · rename_i h
      show 0 * 10 + ((UInt8.ofNat (48 + u)).toNat - 48) = u
      rw [digit_nat u h]; omega
    · rename_i h
      have := ih (u / 10) (by omega)
      unfold undec at this ⊢
      rw [List.foldl_append, this]
      show u / 10 * 10 + ((UInt8.ofNat (48 + u % 10)).toNat - 48) = u
      rw [digit_nat _ (by omega)]; omega
theorem dec_bytes (u : Nat) : Lib.decDigits u ≠ [] ∧ ∀ b ∈ Lib.decDigits u, 48 ≤ b.toNat ∧ b.toNat ≤ 57 := by
  induction u using Nat.strongRecOn with
  | ind u ih =>
    rw [Lib.decDigits]
    split
    · rename_i h
      refine ⟨by simp, fun b hb => ?_⟩
      simp only [List.mem_cons, List.not_mem_nil, or_false] at hb
      rw [hb, digit_nat u h]; omega
    · rename_i h
      refine ⟨by simp, fun b hb => ?_⟩
      rcases List.mem_append.1 hb with hb | hb
      · exact (ih (u / 10) (by omega)).2 b hb
      · simp only [List.mem_cons, List.not_mem_nil, or_false] at hb
        rw [hb, digit_nat _ (by omega)]; omega
theorem dec_inj {a b : Nat} (h : Lib.decDigits a = Lib.decDigits b) : a = b := by rw [← undec_dec a, h, undec_dec]
theorem itoa_bytes (n : Int) : Lib.itoa n ≠ [] ∧ ∀ b ∈ Lib.itoa n, b = 45 ∨ (48 ≤ b.toNat ∧ b.toNat ≤ 57) := by
  unfold Lib.itoa
  split
  · refine ⟨by simp, fun b hb => ?_⟩
    rcases List.mem_cons.1 hb with hb | hb
    · exact .inl hb
    · exact .inr ((dec_bytes _).2 b hb)
  · exact ⟨(dec_bytes _).1, fun b hb => .inr ((dec_bytes _).2 b hb)⟩
theorem itoa_inj {a b : Int} (h : Lib.itoa a = Lib.itoa b) : a = b := by
  have no45 : ∀ (u : Nat) (l : List UInt8), Lib.decDigits u ≠ 45 :: l := fun u l e => by
    have := (dec_bytes u).2 45 (by rw [e]; simp)
    revert this; decide
  unfold Lib.itoa at h
  split at h
  · split at h
    · have := dec_inj (List.cons.inj h).2
      omega
    · exact absurd h.symm (no45 _ _)
  · split at h
    · exact absurd h (no45 _ _)
    · have := dec_inj h
      omega
theorem itoa_no {n : Int} {c : UInt8} (hc : c = 32 ∨ c = 58 ∨ c = 124) : c ∉ Lib.itoa n := fun h => by
  rcases (itoa_bytes n).2 c h with e | e
  · rcases hc with rfl | rfl | rfl <;> revert e <;> decide
  · rcases hc with rfl | rfl | rfl <;> revert e <;> decide

def clsB (c : Int × Int) : List UInt8 := Lib.itoa c.1 ++ 58 :: Lib.itoa c.2
def barB : List UInt8 := [124]
/-- the pieces of classes, from a place on -/
def clsP (gl : List Int) : Nat → List (Int × Int) → List (List UInt8)
  | _, [] => []
  | k, c :: r => (if gl.length < k ∧ 0 < k then [barB] else []) ++ ([clsB c] ++ ((if k < gl.length then [Lib.itoa (gl.getD k 0)] else []) ++ clsP gl (k + 1) r))
def restP (l : List Int) : List (List UInt8) := l.flatMap fun g => [barB, Lib.itoa g]
def zoneP (cl : List (Int × Int)) (gl : List Int) : List (List UInt8) := clsP gl 0 cl ++ restP (gl.drop cl.length)
def zoneTx (cl : List (Int × Int)) (gl : List Int) : List UInt8 := Lib.join (zoneP cl gl) [32]

theorem split_colon : ∀ (x x' y y' : List UInt8), 58 ∉ x → 58 ∉ x' → x ++ 58 :: y = x' ++ 58 :: y' → x = x' ∧ y = y'
  | [], [], y, y', _, _, h => ⟨rfl, (List.cons.inj h).2⟩
  | [], b :: x', y, y', _, h2, h => by
    have := (List.cons.inj h).1
    exact absurd (by rw [← this]; simp) h2
  | a :: x, [], y, y', h1, _, h => by
    have := (List.cons.inj h).1
    exact absurd (by rw [this]; simp) h1
  | a :: x, b :: x', y, y', h1, h2, h => by
    obtain ⟨e1, e2⟩ := List.cons.inj h
    obtain ⟨e3, e4⟩ := split_colon x x' y y' (fun hh => h1 (List.mem_cons_of_mem _ hh)) (fun hh => h2 (List.mem_cons_of_mem _ hh)) e2
    exact ⟨by rw [e1, e3], e4⟩
theorem clsB_inj {a b : Int × Int} (h : clsB a = clsB b) : a = b := by
  obtain ⟨e1, e2⟩ := split_colon _ _ _ _ (itoa_no (.inr (.inl rfl))) (itoa_no (.inr (.inl rfl))) h
  exact Prod.ext (itoa_inj e1) (itoa_inj e2)
theorem map_inj {α β : Type} {f : α → β} (hf : ∀ {a b}, f a = f b → a = b) : ∀ {l m : List α}, l.map f = m.map f → l = m
  | [], [], _ => rfl
  | [], b :: m, h => by cases h
  | a :: l, [], h => by cases h
  | a :: l, b :: m, h => by
    rw [List.map_cons, List.map_cons] at h
    obtain ⟨e1, e2⟩ := List.cons.inj h
    rw [hf e1, map_inj hf e2]

def isC (p : List UInt8) : Bool := p.contains 58
def isG (p : List UInt8) : Bool := !p.contains 58 && !(p == barB)
theorem isC_cls (c : Int × Int) : isC (clsB c) = true := by simp [isC, clsB]
theorem isC_num (n : Int) : isC (Lib.itoa n) = false := by
  unfold isC
  have := itoa_no (n := n) (c := 58) (.inr (.inl rfl))
  simpa using this
theorem isG_num (n : Int) : isG (Lib.itoa n) = true := by
  have h := isC_num n
  unfold isC at h
  unfold isG
  rw [h]
  have h2 : (Lib.itoa n == barB) = false := by
    rw [beq_eq_false_iff_ne]
    intro e
    exact itoa_no (n := n) (c := 124) (.inr (.inr rfl)) (by rw [e]; simp [barB])
  rw [h2]; rfl
theorem isG_cls (c : Int × Int) : isG (clsB c) = false := by
  have h := isC_cls c
  unfold isC at h
  unfold isG
  rw [h]; rfl
theorem isC_bar : isC barB = false := by decide
theorem isG_bar : isG barB = false := by decide

theorem cls_filterC (gl : List Int) : ∀ (l : List (Int × Int)) (k : Nat), (clsP gl k l).filter isC = l.map clsB
  | [], _ => rfl
  | c :: r, k => by
    unfold clsP
    rw [List.filter_append, List.filter_append, List.filter_append, cls_filterC gl r (k + 1)]
    have h1 : (if gl.length < k ∧ 0 < k then [barB] else []).filter isC = [] := by split <;> simp [isC_bar]
    have h2 : (if k < gl.length then [Lib.itoa (gl.getD k 0)] else []).filter isC = [] := by split <;> simp [isC_num]
    rw [h1, h2]
    simp [isC_cls]
theorem cls_filterG (gl : List Int) : ∀ (l : List (Int × Int)) (k : Nat), (clsP gl k l).filter isG = ((gl.drop k).take l.length).map Lib.itoa
  | [], _ => by simp [clsP]
  | c :: r, k => by
    unfold clsP
    rw [List.filter_append, List.filter_append, List.filter_append, cls_filterG gl r (k + 1)]
    have h1 : (if gl.length < k ∧ 0 < k then [barB] else []).filter isG = [] := by split <;> simp [isG_bar]
    rw [h1]
    by_cases hk : k < gl.length
    · rw [if_pos hk, List.drop_eq_getElem_cons hk, List.length_cons, List.take_succ_cons, List.map_cons]
      simp [isG_cls, isG_num, List.getD_eq_getElem?_getD, List.getElem?_eq_getElem hk]
    · rw [if_neg hk, List.drop_of_length_le (by omega), List.drop_of_length_le (by omega)]
      simp [isG_cls]
theorem rest_filterC (l : List Int) : (restP l).filter isC = [] := by
  induction l with
  | nil => rfl
  | cons g l ih =>
    unfold restP at ih ⊢
    rw [List.flatMap_cons, List.filter_append, ih]
    simp [isC_bar, isC_num]
theorem rest_filterG (l : List Int) : (restP l).filter isG = l.map Lib.itoa := by
  induction l with
  | nil => rfl
  | cons g l ih =>
    unfold restP at ih ⊢
    rw [List.flatMap_cons, List.filter_append, ih]
    simp [isG_bar, isG_num]
theorem zoneP_inj {cl cl' : List (Int × Int)} {gl gl' : List Int} (h : zoneP cl gl = zoneP cl' gl') : cl = cl' ∧ gl = gl' := by
  have hc := congrArg (List.filter isC) h
  have hg := congrArg (List.filter isG) h
  unfold zoneP at hc hg
  rw [List.filter_append, List.filter_append, cls_filterC, cls_filterC, rest_filterC, rest_filterC, List.append_nil, List.append_nil] at hc
  rw [List.filter_append, List.filter_append, cls_filterG, cls_filterG, rest_filterG, rest_filterG, ← List.map_append, ← List.map_append, List.drop_zero, List.drop_zero, List.take_append_drop, List.take_append_drop] at hg
  exact ⟨map_inj clsB_inj hc, map_inj itoa_inj hg⟩

/-- a piece: not empty, and no blank in it -/
def PieceOK (p : List UInt8) : Prop := p ≠ [] ∧ 32 ∉ p
theorem num_ok (n : Int) : PieceOK (Lib.itoa n) := ⟨(itoa_bytes n).1, itoa_no (.inl rfl)⟩
theorem bar_ok : PieceOK barB := ⟨by decide, by decide⟩
theorem cls_ok (c : Int × Int) : PieceOK (clsB c) := by
  refine ⟨by simp [clsB], fun h => ?_⟩
  unfold clsB at h
  rcases List.mem_append.1 h with h | h
  · exact itoa_no (.inl rfl) h
  · rcases List.mem_cons.1 h with h | h
    · revert h; decide
    · exact itoa_no (.inl rfl) h
theorem clsP_ok (gl : List Int) : ∀ (l : List (Int × Int)) (k : Nat), ∀ p ∈ clsP gl k l, PieceOK p
  | [], _, p, h => by cases h
  | c :: r, k, p, h => by
    unfold clsP at h
    rcases List.mem_append.1 h with h | h
    · split at h
      · simp only [List.mem_cons, List.not_mem_nil, or_false] at h; rw [h]; exact bar_ok
      · cases h
    · rcases List.mem_append.1 h with h | h
      · simp only [List.mem_cons, List.not_mem_nil, or_false] at h; rw [h]; exact cls_ok c
      · rcases List.mem_append.1 h with h | h
        · split at h
          · simp only [List.mem_cons, List.not_mem_nil, or_false] at h; rw [h]; exact num_ok _
          · cases h
        · exact clsP_ok gl r (k + 1) p h
theorem zoneP_ok (cl : List (Int × Int)) (gl : List Int) : ∀ p ∈ zoneP cl gl, PieceOK p := by
  intro p h
  unfold zoneP at h
  rcases List.mem_append.1 h with h | h
  · exact clsP_ok gl cl 0 p h
  · unfold restP at h
    obtain ⟨g, _, hp⟩ := List.mem_flatMap.1 h
    simp only [List.mem_cons, List.not_mem_nil, or_false] at hp
    rcases hp with rfl | rfl
    · exact bar_ok
    · exact num_ok g
theorem head_split : ∀ (x x' t t' : List UInt8), 32 ∉ x → 32 ∉ x' → (t = [] ∨ ∃ s, t = 32 :: s) → (t' = [] ∨ ∃ s, t' = 32 :: s) → x ++ t = x' ++ t' → x = x' ∧ t = t'
  | [], [], t, t', _, _, _, _, h => ⟨rfl, h⟩
  | [], b :: x', t, t', _, h2, ht, _, h => by
    rcases ht with rfl | ⟨s, rfl⟩
    · simp at h
    · have := (List.cons.inj h).1
      exact absurd (by rw [← this]; simp) h2
  | a :: x, [], t, t', h1, _, _, ht, h => by
    rcases ht with rfl | ⟨s, rfl⟩
    · simp at h
    · have := (List.cons.inj h).1
      exact absurd (by rw [this]; simp) h1
  | a :: x, b :: x', t, t', h1, h2, ht, ht', h => by
    obtain ⟨e1, e2⟩ := List.cons.inj h
    obtain ⟨e3, e4⟩ := head_split x x' t t' (fun hh => h1 (List.mem_cons_of_mem _ hh)) (fun hh => h2 (List.mem_cons_of_mem _ hh)) ht ht' e2
    exact ⟨by rw [e1, e3], e4⟩
theorem tail_form (r : List (List UInt8)) : Lib.joinTail [32] r = [] ∨ ∃ s, Lib.joinTail [32] r = 32 :: s := by
  cases r with
  | nil => exact .inl rfl
  | cons x r => exact .inr ⟨x ++ Lib.joinTail [32] r, by simp [Lib.joinTail]⟩
theorem tail_inj : ∀ (r s : List (List UInt8)), (∀ p ∈ r, PieceOK p) → (∀ p ∈ s, PieceOK p) → Lib.joinTail [32] r = Lib.joinTail [32] s → r = s
  | [], [], _, _, _ => rfl
  | [], y :: s, _, _, h => by simp [Lib.joinTail] at h
  | x :: r, [], _, _, h => by simp [Lib.joinTail] at h
  | x :: r, y :: s, hr, hs, h => by
    have e1 : Lib.joinTail [32] (x :: r) = 32 :: (x ++ Lib.joinTail [32] r) := by simp [Lib.joinTail]
    have e2 : Lib.joinTail [32] (y :: s) = 32 :: (y ++ Lib.joinTail [32] s) := by simp [Lib.joinTail]
    rw [e1, e2] at h
    obtain ⟨e3, e4⟩ := head_split x y _ _ (hr x (by simp)).2 (hs y (by simp)).2 (tail_form r) (tail_form s) (List.cons.inj h).2
    rw [e3, tail_inj r s (fun p hp => hr p (List.mem_cons_of_mem _ hp)) (fun p hp => hs p (List.mem_cons_of_mem _ hp)) e4]
theorem join_inj : ∀ (r s : List (List UInt8)), (∀ p ∈ r, PieceOK p) → (∀ p ∈ s, PieceOK p) → Lib.join r [32] = Lib.join s [32] → r = s
  | [], [], _, _, _ => rfl
  | [], y :: s, _, hs, h => by
    rw [Lib.join_nil, Lib.join_cons] at h
    exact absurd (List.append_eq_nil_iff.1 h.symm).1 (hs y (by simp)).1
  | x :: r, [], hr, _, h => by
    rw [Lib.join_nil, Lib.join_cons] at h
    exact absurd (List.append_eq_nil_iff.1 h).1 (hr x (by simp)).1
  | x :: r, y :: s, hr, hs, h => by
    rw [Lib.join_cons, Lib.join_cons] at h
    obtain ⟨e3, e4⟩ := head_split x y _ _ (hr x (by simp)).2 (hs y (by simp)).2 (tail_form r) (tail_form s) h
    rw [e3, tail_inj r s (fun p hp => hr p (List.mem_cons_of_mem _ hp)) (fun p hp => hs p (List.mem_cons_of_mem _ hp)) e4]
/-- A ZONE'S TEXT TELLS THE ZONE -/
theorem zoneTx_inj {cl cl' : List (Int × Int)} {gl gl' : List Int} (h : zoneTx cl gl = zoneTx cl' gl') : cl = cl' ∧ gl = gl' :=
  zoneP_inj (join_inj _ _ (zoneP_ok cl gl) (zoneP_ok cl' gl') h)

end Go.Proofs.YtkkoooagamadjaaGreatDoor

namespace Go.Proofs.YtkkoooagamadjaaGreatDoor
open Go.RowKit

theorem list_ne_of_get {α : Type} {l m : List α} (k : Nat) (x y : α) (h1 : l[k]? = some x) (h2 : m[k]? = some y) (h : x ≠ y) : l ≠ m := by
  intro e; subst e; rw [h1] at h2; exact h (Option.some.inj h2)
theorem list_eq_of_get {α : Type} {l m : List α} (n : Nat) (h1 : l.length = n) (h2 : m.length = n) (h : ∀ j, j < n → l[j]? = m[j]?) : l = m := by
  apply List.ext_getElem?
  intro j
  by_cases hj : j < n
  · exact h j hj
  · rw [List.getElem?_eq_none (by omega), List.getElem?_eq_none (by omega)]

set_option maxRecDepth 100000 in
set_option maxHeartbeats 4000000 in
/-- Same -/
theorem zsame_any (b1 b2 : Nat) (v1 v2 u1 u2 : Value) (cl dl : List (Int × Int)) (gl fl : List Int) (w : World) (h1 : ZoneAt w b1 v1 v2 cl gl) (h2 : ZoneAt w b2 u1 u2 dl fl) (hcl : cl.length ≤ 65536) (hgl : gl.length ≤ 65536) (hdl : dl.length ≤ 65536) (hfl : fl.length ≤ 65536) :
    Calls Tryz.prog 16 #[.agg #[v1, v2], .agg #[u1, u2]] w fun e w' => e = .returned (.bool (decide ((cl, gl) = (dl, fl)))) ∧ Below w.heap.size w w' := by
  have x2 := (Box2.new w v1 v2).alloc (.cells #[u1, u2] 28)
  have x3 := Box2.new (w.alloc (.cells #[v1, v2] 28)) u1 u2
  simp only [World.size_alloc] at x3
  have hb0 : Below w.heap.size w ((w.alloc (.cells #[v1, v2] 28)).alloc (.cells #[u1, u2] 28)) := ((Below.refl _ w).alloc (Nat.le_refl _) _).alloc (by simp) _
  have hs0 : ((w.alloc (.cells #[v1, v2] 28)).alloc (.cells #[u1, u2] 28)).heap.size = w.heap.size + 2 := by simp
  have z1 := h1.below hb0
  have z2 := h2.below hb0
  obtain ⟨a1, k1, e1⟩ := owns_len h1.1
  obtain ⟨a2, k2, e2⟩ := owns_len h1.2
  obtain ⟨a3, k3, e3⟩ := owns_len h2.1
  obtain ⟨a4, k4, e4⟩ := owns_len h2.2
  obtain ⟨n, hn⟩ : ∃ n, cl.length = n := ⟨_, rfl⟩
  obtain ⟨m, hm⟩ : ∃ m, gl.length = m := ⟨_, rfl⟩
  obtain ⟨n', hn'⟩ : ∃ n, dl.length = n := ⟨_, rfl⟩
  obtain ⟨m', hm'⟩ : ∃ m, fl.length = m := ⟨_, rfl⟩
  obtain ⟨ans, ha⟩ : ∃ ans, decide ((cl, gl) = (dl, fl)) = ans := ⟨_, rfl⟩
  rw [ha]
  have HA := Lib.hid ha
  have HN := Lib.hid hn; have HM := Lib.hid hm; have HN' := Lib.hid hn'; have HM' := Lib.hid hm'
  rw [hn] at e1 hcl; rw [hm] at e2 hgl; rw [hn'] at e3 hdl; rw [hm'] at e4 hfl
  subst e1; subst e2; subst e3; subst e4
  have X2 := Lib.hid x2; have X3 := Lib.hid x3; have Z1 := Lib.hid z1; have Z2 := Lib.hid z2; have HB0 := Lib.hid hb0
  clear x2 x3 z1 z2 hb0 h1 h2 hn hm hn' hm' ha
  by_cases hnn : n = n'
  rotate_left
  · have hnz : ¬ (n : Int) = (n' : Int) := by omega
    obtain rfl : ans = false := by
      rw [← HA.out]
      refine decide_eq_false fun e => hnn ?_
      rw [← HN.out, ← HN'.out, (Prod.mk.inj e).1]
    clear hnn
    go_enter Tryz.func16, Tryz.ntmps16
    go_wp2
    go_ret
    exact ⟨rfl, HB0.out⟩
  subst hnn
  by_cases hmm : m = m'
  rotate_left
  · have hnz : ¬ (m : Int) = (m' : Int) := by omega
    obtain rfl : ans = false := by
      rw [← HA.out]
      refine decide_eq_false fun e => hmm ?_
      rw [← HM.out, ← HM'.out, (Prod.mk.inj e).2]
    clear hmm
    go_enter Tryz.func16, Tryz.ntmps16
    go_wp2
    go_ret
    exact ⟨rfl, HB0.out⟩
  subst hmm
  go_enter Tryz.func16, Tryz.ntmps16
  go_wp2
  obtain ⟨W0, hW0⟩ : ∃ W0, ((w.alloc (.cells #[.slice a1 n k1, .slice a2 m k2] 28)).alloc (.cells #[.slice a3 n k3, .slice a4 m k4] 28)) = W0 := ⟨_, rfl⟩
  rw [hW0] at X2 X3 Z1 Z2 HB0 hs0 ⊢
  clear hW0
  go_loopw [5] (fun i wr => ∃ k : Nat, i = .int .i64 k ∧ k ≤ n ∧ Hid (Below W0.heap.size W0 wr) ∧ Hid (∀ j, j < k → cl[j]? = dl[j]?)) (fun i _ => n - (intOf i).toNat)
  case atStart => exact ⟨0, rfl, Nat.zero_le _, Below.refl _ _, fun j h => by omega⟩
  case round =>
    obtain ⟨k, rfl, hk, hb, HE⟩ := hrel
    have x2 : Box2 wr w.heap.size _ _ := (hb.out.block _ X2.out.lt).trans X2.out
    have x3 : Box2 wr (w.heap.size + 1) _ _ := (hb.out.block _ X3.out.lt).trans X3.out
    have c20 := x2.c0; have c21 := x2.c1; have c30 := x3.c0; have c31 := x3.c1
    by_cases hlt : k < n
    · have p1 : (k : Int) < (n : Int) := by omega
      have hkl : k < cl.length := by rw [HN.out]; exact hlt
      obtain ⟨x, hx⟩ : ∃ x, cl[k]? = some x := ⟨_, List.getElem?_eq_getElem hkl⟩
      obtain ⟨y, hy⟩ : ∃ y, dl[k]? = some y := ⟨_, List.getElem?_eq_getElem (by rw [HN'.out]; exact hlt)⟩
      have cx := cellsP_get _ _ _ hx
      have cy := cellsP_get _ _ _ hy
      have y1 := owns_below Z1.out.1 hb.out; have y2 := owns_below Z2.out.1 hb.out
      rw [HN.out] at y1; rw [HN'.out] at y2
      obtain ⟨g, q1, t1⟩ := owns_slice y1 (by omega)
      obtain ⟨g', q2, t2⟩ := owns_slice y2 (by omega)
      cases t1; cases t2
      have d1 : wr.cell? ⟨g, k * 2, none⟩ = some (.int .i64 x.1) := by rw [y1.cellAt _ (by omega)]; exact cx.1
      have d2 : wr.cell? ⟨g, k * 2 + 1, none⟩ = some (.int .i64 x.2) := by rw [y1.cellAt _ (by omega)]; exact cx.2
      have d3 : wr.cell? ⟨g', k * 2, none⟩ = some (.int .i64 y.1) := by rw [y2.cellAt _ (by omega)]; exact cy.1
      have d4 : wr.cell? ⟨g', k * 2 + 1, none⟩ = some (.int .i64 y.2) := by rw [y2.cellAt _ (by omega)]; exact cy.2
      obtain ⟨xa, xb⟩ := x
      obtain ⟨ya, yb⟩ := y
      dsimp only at d1 d2 d3 d4
      by_cases hxy : (xa, xb) = (ya, yb)
      · obtain ⟨rfl, rfl⟩ := Prod.mk.inj hxy
        have HE2 : Hid (∀ j, j < k + 1 → cl[j]? = dl[j]?) := Lib.hid fun j h => by
          by_cases hjk : j < k
          · exact HE.out j hjk
          · obtain rfl : j = k := by omega
            rw [hx, hy]
        clear cx cy hx hy x2 x3 y1 y2 hxy HE
        go_wp2
        go_quiet (fail)
        go_wp2
        go_roundw
        case rel => exact ⟨k + 1, by go_num, by omega, Lib.hid (below_drewN hb.out _), HE2⟩
        case measure => simp [intOf]; omega
      · obtain rfl : ans = false := by
          rw [← HA.out]
          refine decide_eq_false fun e => ?_
          exact list_ne_of_get k _ _ hx hy hxy (Prod.mk.inj e).1
        have HF := Lib.hid (HB0.out.trans (hb.out.mono HB0.out.size))
        by_cases hA : xa = ya
        · subst hA
          have hB : ¬ xb = yb := fun h => hxy (by rw [h])
          clear cx cy hx hy x2 x3 y1 y2 hxy HE
          go_wp2
          go_quiet (fail)
          go_wp2
          go_ret
          exact ⟨rfl, below_drewN HF.out _⟩
        · clear cx cy hx hy x2 x3 y1 y2 hxy HE
          go_wp2
          go_quiet (fail)
          go_wp2
          go_ret
          exact ⟨rfl, below_drewN HF.out _⟩
    · obtain rfl : k = n := by omega
      clear x2 x3 hlt
      go_wp2
      obtain ⟨W1, rfl⟩ : ∃ W1, W1 = wr := ⟨_, rfl⟩
      go_loopw [6] (fun i wr => ∃ j : Nat, i = .int .i64 j ∧ j ≤ m ∧ Hid (Below W0.heap.size W0 wr) ∧ Hid (∀ i, i < j → gl[i]? = fl[i]?)) (fun i _ => m - (intOf i).toNat)
      case atStart => exact ⟨0, rfl, Nat.zero_le _, hb, fun j h => by omega⟩
      case round =>
        clear c20 c21 c30 c31 hb
        obtain ⟨j, rfl, hj, hb, HG⟩ := hrel
        have x2 : Box2 wr w.heap.size _ _ := (hb.out.block _ X2.out.lt).trans X2.out
        have x3 : Box2 wr (w.heap.size + 1) _ _ := (hb.out.block _ X3.out.lt).trans X3.out
        have c20 := x2.c0; have c21 := x2.c1; have c30 := x3.c0; have c31 := x3.c1
        by_cases hlt : j < m
        · have p1 : (j : Int) < (m : Int) := by omega
          have hkl : j < gl.length := by rw [HM.out]; exact hlt
          obtain ⟨x, hx⟩ : ∃ x, gl[j]? = some x := ⟨_, List.getElem?_eq_getElem hkl⟩
          have cx : (ints gl)[j]? = some (.int .i64 x) := by simp [ints, hx]
          obtain ⟨y, hy⟩ : ∃ y, fl[j]? = some y := ⟨_, List.getElem?_eq_getElem (by rw [HM'.out]; exact hlt)⟩
          have cy : (ints fl)[j]? = some (.int .i64 y) := by simp [ints, hy]
          have y1 := owns_below Z1.out.2 hb.out; have y2 := owns_below Z2.out.2 hb.out
          rw [HM.out] at y1; rw [HM'.out] at y2
          obtain ⟨g, q1, t1⟩ := owns_slice y1 (by omega)
          obtain ⟨g', q2, t2⟩ := owns_slice y2 (by omega)
          cases t1; cases t2
          have d1 : wr.cell? ⟨g, j, none⟩ = some (.int .i64 x) := by rw [y1.cellAt _ (by omega)]; exact cx
          have d3 : wr.cell? ⟨g', j, none⟩ = some (.int .i64 y) := by rw [y2.cellAt _ (by omega)]; exact cy
          by_cases hxy : x = y
          · subst hxy
            have HG2 : Hid (∀ i, i < j + 1 → gl[i]? = fl[i]?) := Lib.hid fun i h => by
              by_cases hij : i < j
              · exact HG.out i hij
              · obtain rfl : i = j := by omega
                rw [hx, hy]
            clear cx cy hx hy x2 x3 y1 y2 HG
            go_wp2
            go_quiet (fail)
            go_wp2
            go_roundw
            case rel => exact ⟨j + 1, by go_num, by omega, Lib.hid (below_drewN hb.out _), HG2⟩
            case measure => simp [intOf]; omega
          · obtain rfl : ans = false := by
              rw [← HA.out]
              refine decide_eq_false fun e => ?_
              exact list_ne_of_get j _ _ hx hy hxy (Prod.mk.inj e).2
            have HF := Lib.hid (HB0.out.trans (hb.out.mono HB0.out.size))
            clear cx cy hx hy x2 x3 y1 y2 HG
            go_wp2
            go_quiet (fail)
            go_wp2
            go_ret
            exact ⟨rfl, below_drewN HF.out _⟩
        · obtain rfl : j = m := by omega
          have HF := Lib.hid (HB0.out.trans (hb.out.mono HB0.out.size))
          obtain rfl : ans = true := by
            rw [← HA.out]
            refine decide_eq_true ?_
            rw [list_eq_of_get k HN.out HN'.out HE.out, list_eq_of_get j HM.out HM'.out HG.out]
          clear x2 x3 hlt
          go_wp2
          go_ret
          exact ⟨rfl, HF.out⟩

end Go.Proofs.YtkkoooagamadjaaGreatDoor

namespace Go.Proofs.YtkkoooagamadjaaGreatDoor
open Go.RowKit Go.Shelf

instance : DecidableEq Zn := inferInstanceAs (DecidableEq (List (Int × Int) × List Int))

end Go.Proofs.YtkkoooagamadjaaGreatDoor

namespace Go.Proofs.YtkkoooagamadjaaGreatDoor
open Go.RowKit

/-- zones, each once, behind some -/
def uniqF : List Zn → List Zn → List Zn
  | out, [] => out
  | out, z :: r => if z ∈ out then uniqF out r else uniqF (out ++ [z]) r
def uniqL (l : List Zn) : List Zn := uniqF [] l
theorem uniqF_snoc : ∀ (l out : List Zn) (z : Zn), uniqF out (l ++ [z]) = if z ∈ uniqF out l then uniqF out l else uniqF out l ++ [z]
  | [], out, z => by
    by_cases h : z ∈ out
    · rw [if_pos (show z ∈ uniqF out [] from h), List.nil_append]; simp only [uniqF]; rw [if_pos h]
    · rw [if_neg (show ¬ z ∈ uniqF out [] from h), List.nil_append]; simp only [uniqF]; rw [if_neg h]
  | y :: l, out, z => by
    simp only [List.cons_append, uniqF]
    split <;> exact uniqF_snoc l _ z
theorem uniqF_mem : ∀ (l out : List Zn) (z : Zn), z ∈ uniqF out l ↔ z ∈ out ∨ z ∈ l
  | [], out, z => by simp [uniqF]
  | y :: l, out, z => by
    simp only [uniqF]
    split
    · rename_i h
      rw [uniqF_mem l out z, List.mem_cons]
      constructor
      · rintro (h1 | h1)
        · exact .inl h1
        · exact .inr (.inr h1)
      · rintro (h1 | rfl | h1)
        · exact .inl h1
        · exact .inl h
        · exact .inr h1
    · rw [uniqF_mem l _ z, List.mem_append, List.mem_singleton, List.mem_cons, or_assoc]
theorem uniqF_nodup : ∀ (l out : List Zn), out.Nodup → (uniqF out l).Nodup
  | [], out, h => h
  | y :: l, out, h => by
    simp only [uniqF]
    split
    · exact uniqF_nodup l out h
    · rename_i h1
      refine uniqF_nodup l _ (List.nodup_append.2 ⟨h, by simp, fun u hu v hv e => ?_⟩)
      rw [List.mem_singleton] at hv
      subst hv; subst e; exact h1 hu
theorem uniqF_len : ∀ (l out : List Zn), (uniqF out l).length ≤ out.length + l.length
  | [], out => by simp [uniqF]
  | y :: l, out => by
    simp only [uniqF]
    split
    · have := uniqF_len l out; simp only [List.length_cons]; omega
    · have := uniqF_len l (out ++ [y]); simp only [List.length_append, List.length_cons, List.length_nil] at this ⊢; omega
theorem uniqL_mem (l : List Zn) (z : Zn) : z ∈ uniqL l ↔ z ∈ l := by unfold uniqL; rw [uniqF_mem]; simp
theorem uniqL_nodup (l : List Zn) : (uniqL l).Nodup := uniqF_nodup l [] List.nodup_nil
theorem uniqL_len (l : List Zn) : (uniqL l).length ≤ l.length := by have := uniqF_len l []; simpa [uniqL] using this
theorem uniqL_snoc (l : List Zn) (z : Zn) : uniqL (l ++ [z]) = if z ∈ l then uniqL l else uniqL l ++ [z] := by
  have h := uniqF_snoc l [] z
  have e : z ∈ uniqF [] l ↔ z ∈ l := by rw [uniqF_mem]; simp
  unfold uniqL
  rw [h]
  by_cases hz : z ∈ l
  · rw [if_pos hz, if_pos (e.2 hz)]
  · rw [if_neg hz, if_neg (fun h => hz (e.1 h))]

/-- a zone's own text, as a string -/
def zoneS (z : Zn) : ByteArray := ⟨(zoneTx z.1 z.2).toArray⟩
theorem zoneS_inj {y z : Zn} (h : zoneS y = zoneS z) : y = z := by
  unfold zoneS at h
  simp only [ByteArray.mk.injEq] at h
  have h2 : zoneTx y.1 y.2 = zoneTx z.1 z.2 := by simpa using congrArg Array.toList h
  obtain ⟨a, b⟩ := zoneTx_inj h2
  exact Prod.ext a b

/-- the zones behind one that is written -/
def wrOne (a r : Int) (z : Zn) : List Zn := putL (dropZ a r z.1 z.2).1 (dropZ a r z.1 z.2).2 a r
def wrStep (a r : Int) (zs : List Zn) : List Zn := uniqL (zs.flatMap (wrOne a r))
def writeL : Int → List Int → List Zn → List Zn
  | _, [], zs => zs
  | r, a :: l, zs => writeL (r - 1) l (wrStep a r zs)

theorem wrOne_of (vals consts : List Int) (a : Nat) (r : Int) (hv : vals.length ≤ 31) : wrOne a r (ofZ vals consts r) = putL (somZ vals consts a r).1 (somZ vals consts a r).2 a r := by
  have h := drop_some vals consts [(a : Int)] r hv
  have e : dropZ a r (ofZ vals consts r).1 (ofZ vals consts r).2 = somZ vals consts a r := h
  unfold wrOne
  rw [e]
theorem allX_of (vals consts : List Int) (a : Nat) (r x : Int) : allX vals consts a r x = ofZ (vals.set a x) consts (r - 1) := by
  unfold allX ofZ
  rw [List.length_set]
  rfl

/-- two writes: just the zones of all numbers that may be written -/
theorem write_mem (vals consts : List Int) (a b : Nat) (r : Int) (hv : vals.length ≤ 31) (ha : a < vals.length) (hb : b < vals.length) (h2 : 2 ≤ r) (h3 : r ≤ 20) (x y : Int) :
    ofZ ((vals.set a x).set b y) consts (r - 2) ∈ writeL r [(a : Int), (b : Int)] [ofZ vals consts r] := by
  show _ ∈ wrStep b (r - 1) (wrStep a r [ofZ vals consts r])
  unfold wrStep
  rw [uniqL_mem, List.mem_flatMap]
  refine ⟨ofZ (vals.set a x) consts (r - 1), ?_, ?_⟩
  · rw [uniqL_mem, List.mem_flatMap]
    refine ⟨_, List.mem_singleton.2 rfl, ?_⟩
    rw [wrOne_of vals consts a r hv, ← allX_of]
    exact true_mem vals consts a r hv ha (by omega) h3 x
  · rw [wrOne_of (vals.set a x) consts b (r - 1) (by rw [List.length_set]; exact hv)]
    have := true_mem (vals.set a x) consts b (r - 1) (by rw [List.length_set]; exact hv) (by rw [List.length_set]; exact hb) (by omega) (by omega) y
    rw [allX_of, show r - 1 - 1 = r - 2 by omega] at this
    exact this
theorem write_comes (vals consts : List Int) (a b : Nat) (r lo hi : Int) (hv : vals.length ≤ 31) (ha : a < vals.length) (hb : b < vals.length) (h2 : 2 ≤ r) (h3 : r ≤ 20) (h0 : lo ≤ hi) (hbd : ∀ x ∈ consts ++ vals, lo ≤ x ∧ x ≤ hi) (z : Zn)
    (hz : z ∈ writeL r [(a : Int), (b : Int)] [ofZ vals consts r]) :
    ∃ x y, (lo - (kap r : Int) - 1 ≤ x ∧ x ≤ hi + (kap r : Int) + 1) ∧ (lo - (kap r : Int) - 1 ≤ y ∧ y ≤ hi + (kap r : Int) + 1) ∧ ofZ ((vals.set a x).set b y) consts (r - 2) = z := by
  replace hz : z ∈ wrStep b (r - 1) (wrStep a r [ofZ vals consts r]) := hz
  unfold wrStep at hz
  rw [uniqL_mem, List.mem_flatMap] at hz
  obtain ⟨y1, h1, hz⟩ := hz
  rw [uniqL_mem, List.mem_flatMap] at h1
  obtain ⟨y0, h4, h1⟩ := h1
  rw [List.mem_singleton] at h4
  subst h4
  rw [wrOne_of vals consts a r hv] at h1
  have ho : ∀ (v : List Int) (c : Nat) (l h : Int), (∀ x ∈ consts ++ v, l ≤ x ∧ x ≤ h) → ∀ x ∈ othZ v consts c, l ≤ x ∧ x ≤ h := by
    intro v c l h H x hx
    rcases (mem_oth _ _ _ _).1 hx with h1 | ⟨k, h1, _, rfl⟩
    · exact H x (List.mem_append_left _ h1)
    · refine H _ (List.mem_append_right _ ?_)
      rw [List.getD_eq_getElem?_getD, List.getElem?_eq_getElem h1]
      exact List.getElem_mem _
  obtain ⟨x, q1, q2, rfl⟩ := true_comes vals consts a r lo hi hv ha (by omega) h3 h0 (ho vals a lo hi hbd) y1 h1
  rw [allX_of, wrOne_of (vals.set a x) consts b (r - 1) (by rw [List.length_set]; exact hv)] at hz
  have hk : (kap (r - 1) : Int) + 1 + (kap (r - 2) : Int) + 1 ≤ (kap r : Int) + 1 ∧ kap (r - 2) ≤ kap (r - 1) ∧ kap (r - 1) ≤ kap r := by
    have hc : kapE (r - 2) + 1 = kapE (r - 1) ∧ kapE (r - 1) + 1 = kapE r := by unfold kapE; omega
    have e1 : 2 ^ kapE (r - 1) = 2 * 2 ^ kapE (r - 2) := by rw [← hc.1, Nat.pow_succ]; omega
    have e2 : 2 ^ kapE r = 2 * 2 ^ kapE (r - 1) := by rw [← hc.2, Nat.pow_succ]; omega
    have e3 : 0 < 2 ^ kapE (r - 2) := Nat.pow_pos (by decide)
    unfold kap
    omega
  obtain ⟨y, p1, p2, rfl⟩ := true_comes (vals.set a x) consts b (r - 1) (lo - (kap (r - 1) : Int) - 1) (hi + (kap (r - 1) : Int) + 1) (by rw [List.length_set]; exact hv) (by rw [List.length_set]; exact hb) (by omega) (by omega) (by omega) (ho _ b _ _ (fun w hw => by
    rcases List.mem_append.1 hw with h | h
    · have := hbd w (List.mem_append_left _ h); omega
    · rcases List.mem_or_eq_of_mem_set h with h | rfl
      · have := hbd w (List.mem_append_right _ h); omega
      · omega)) z hz
  rw [show r - 1 - 1 = r - 2 by omega] at p1 p2
  refine ⟨x, y, ⟨by omega, by omega⟩, ⟨by omega, by omega⟩, ?_⟩
  rw [allX_of, show r - 1 - 1 = r - 2 by omega]
theorem write_nodup (a b r : Int) (zs : List Zn) : (writeL r [a, b] zs).Nodup := by
  show (wrStep b (r - 1) (wrStep a r zs)).Nodup
  exact uniqL_nodup _

/-- bounds -/
def I64 (z : Zn) : Prop := (∀ c ∈ z.1, (-9223372036854775808 ≤ c.1 ∧ c.1 ≤ 9223372036854775807) ∧ (-9223372036854775808 ≤ c.2 ∧ c.2 ≤ 9223372036854775807)) ∧ ∀ g ∈ z.2, -9223372036854775808 ≤ g ∧ g ≤ 9223372036854775807
theorem putBd (x a : Int) (t : Bool) : -9223372036854775808 ≤ putZ x a t ∧ putZ x a t ≤ 9223372036854775807 := by have := putZ_bd x a t; omega

end Go.Proofs.YtkkoooagamadjaaGreatDoor
