/- A trace's text: plain. -/
import Derived.Test.YtgmijfmbbaipfaaDoorNm
import Derived.Test.YtgmijfmbbaipfaaDoorMdl
namespace Go.Proofs.YtgmijfmbbaipfaaDoor
open Go.RowKit

def byW : ByteArray := ⟨#[32, 98, 121, 32]⟩
def setsW : ByteArray := ⟨#[32, 115, 101, 116, 115, 32]⟩
def commaW : ByteArray := ⟨#[44, 32]⟩
def eqW : ByteArray := ⟨#[32, 61, 32]⟩
def endW : ByteArray := ⟨#[59, 10]⟩
def idleW : ByteArray := ⟨#[105, 100, 108, 101, 59, 10]⟩
def loopW : ByteArray := ⟨#[108, 111, 111, 112, 59, 10]⟩
def noneW : ByteArray := ⟨#[]⟩
def itoaB (n : Int) : ByteArray := ⟨(Lib.itoa n).toArray⟩

/-- a trace: moves, and where it goes round -/
structure Tr where
  moves : List Mv
  loop : Int

def idleV (v : Mv) : Bool := decide (v.event = -1) && decide (v.user = -1) && decide (v.vals.length = 0)
def inZ (n : Int) (m : Nat) : Bool := decide (0 ≤ n) && decide (n < (m : Int))
def evAt (M : Mdl) (i : Int) : Ev := M.events.getD i.toNat ⟨noneW, 0, 0, [], 0⟩
def userAt (M : Mdl) (i : Int) : ByteArray := M.users.getD i.toNat noneW
def attrAt (A : List ByteArray) (i : Int) : ByteArray := A.getD i.toNat noneW
def attrOK (A : List ByteArray) (a : Int) : Bool := inZ a A.length && nameOK (attrAt A a)
def pieceT (A : List ByteArray) (S V : List Int) (i : Nat) : ByteArray := attrAt A (S.getD i 0) ++ eqW ++ itoaB (V.getD i 0)
/-- so many numbers that are set, behind a text -/
def accT (A : List ByteArray) (S V : List Int) (b : ByteArray) : Nat → ByteArray
  | 0 => b
  | k + 1 => accT A S V b k ++ (if k = 0 then setsW else commaW) ++ pieceT A S V k
def setsOK (A : List ByteArray) (S : List Int) (k : Nat) : Bool := (List.range k).all fun i => attrOK A (S.getD i 0)
theorem setsOK_succ (A : List ByteArray) (S : List Int) (k : Nat) : setsOK A S (k + 1) = (setsOK A S k && attrOK A (S.getD k 0)) := by simp [setsOK, List.range_succ, List.all_append]
theorem setsOK_back {A : List ByteArray} {S : List Int} {n k : Nat} (hk : k < n) (h : attrOK A (S.getD k 0) = false) : setsOK A S n = false := by
  cases e : setsOK A S n
  · rfl
  · unfold setsOK at e
    have := List.all_eq_true.1 e k (List.mem_range.2 hk)
    rw [h] at this; cases this
def formOK (M : Mdl) (v : Mv) : Bool := inZ v.event M.events.length && inZ v.user M.users.length && decide (v.vals.length = (evAt M v.event).sets.length)
def lineOK (M : Mdl) (v : Mv) : Bool :=
  idleV v || (formOK M v && nameOK (evAt M v.event).name && nameOK (userAt M v.user) && setsOK M.attrs (evAt M v.event).sets (evAt M v.event).sets.length)
def lineT (M : Mdl) (v : Mv) : ByteArray :=
  if idleV v = true then idleW else accT M.attrs (evAt M v.event).sets v.vals ((evAt M v.event).name ++ byW ++ userAt M v.user) (evAt M v.event).sets.length ++ endW
def accL (M : Mdl) (t : Tr) : Nat → ByteArray
  | 0 => noneW
  | k + 1 => (if (k : Int) = t.loop then accL M t k ++ loopW else accL M t k) ++ lineT M (t.moves.getD k ⟨0, 0, []⟩)
def linesOK (M : Mdl) (t : Tr) (k : Nat) : Bool := (List.range k).all fun i => lineOK M (t.moves.getD i ⟨0, 0, []⟩)
theorem linesOK_succ (M : Mdl) (t : Tr) (k : Nat) : linesOK M t (k + 1) = (linesOK M t k && lineOK M (t.moves.getD k ⟨0, 0, []⟩)) := by simp [linesOK, List.range_succ, List.all_append]
theorem linesOK_back {M : Mdl} {t : Tr} {n k : Nat} (hk : k < n) (h : lineOK M (t.moves.getD k ⟨0, 0, []⟩) = false) : linesOK M t n = false := by
  cases e : linesOK M t n
  · rfl
  · unfold linesOK at e
    have := List.all_eq_true.1 e k (List.mem_range.2 hk)
    rw [h] at this; cases this
def textE (M : Mdl) (t : Tr) : Int :=
  if 1024 < t.moves.length then 3 else if t.loop < -1 ∨ (t.moves.length : Int) ≤ t.loop then 18 else if linesOK M t t.moves.length = true then 0 else 17
def textT (M : Mdl) (t : Tr) : ByteArray := if textE M t = 0 then accL M t t.moves.length else noneW

/-- how great texts are -/
def SmallM (M : Mdl) : Prop := (∀ s ∈ M.attrs, s.size ≤ 60) ∧ (∀ s ∈ M.users, s.size ≤ 60) ∧ ∀ e ∈ M.events, e.name.size ≤ 60
def SmallV (v : Mv) : Prop := v.vals.length ≤ 20 ∧ ∀ n ∈ v.vals, N64 n
theorem ba_cat (a b : ByteArray) : (a ++ b).size = a.size + b.size := ByteArray.size_append
theorem itoa_size (n : Int) (h : N64 n) : (itoaB n).size ≤ 20 := by
  show (Lib.itoa n).toArray.size ≤ 20
  rw [List.size_toArray]
  exact itoa_len n h
theorem attrAt_size {M : Mdl} (h : SmallM M) (i : Int) : (attrAt M.attrs i).size ≤ 60 := by
  unfold attrAt
  rw [List.getD_eq_getElem?_getD]
  cases e : M.attrs[i.toNat]? with
  | none => exact Nat.zero_le _
  | some s => exact h.1 s (List.mem_of_getElem? e)
theorem userAt_size {M : Mdl} (h : SmallM M) (i : Int) : (userAt M i).size ≤ 60 := by
  unfold userAt
  rw [List.getD_eq_getElem?_getD]
  cases e : M.users[i.toNat]? with
  | none => exact Nat.zero_le _
  | some s => exact h.2.1 s (List.mem_of_getElem? e)
theorem evAt_size {M : Mdl} (h : SmallM M) (i : Int) : (evAt M i).name.size ≤ 60 := by
  unfold evAt
  rw [List.getD_eq_getElem?_getD]
  cases e : M.events[i.toNat]? with
  | none => exact Nat.zero_le _
  | some s => exact h.2.2 s (List.mem_of_getElem? e)
theorem val_in {v : Mv} (h : SmallV v) (i : Nat) : N64 (v.vals.getD i 0) := by
  rw [List.getD_eq_getElem?_getD]
  cases e : v.vals[i]? with
  | none => exact ⟨by decide, by decide⟩
  | some s => exact h.2 s (List.mem_of_getElem? e)
theorem piece_size {M : Mdl} {v : Mv} (h : SmallM M) (hv : SmallV v) (S : List Int) (i : Nat) : (pieceT M.attrs S v.vals i).size ≤ 83 := by
  unfold pieceT
  rw [ba_cat, ba_cat]
  have := attrAt_size h (S.getD i 0)
  have := itoa_size _ (val_in hv i)
  have : eqW.size = 3 := rfl
  omega
theorem acc_size {M : Mdl} {v : Mv} (h : SmallM M) (hv : SmallV v) (S : List Int) (b : ByteArray) (k : Nat) : (accT M.attrs S v.vals b k).size ≤ b.size + 89 * k := by
  induction k with
  | zero => simp [accT]
  | succ k ih =>
    rw [accT, ba_cat, ba_cat]
    have := piece_size h hv S k
    have : (if k = 0 then setsW else commaW).size ≤ 6 := by split <;> decide
    omega
theorem line_size {M : Mdl} {v : Mv} (h : SmallM M) (hv : SmallV v) (hf : lineOK M v = true) : (lineT M v).size ≤ 2000 := by
  unfold lineT
  split
  · decide
  · rename_i hi
    unfold lineOK at hf
    rw [Bool.not_eq_true] at hi
    rw [hi] at hf
    unfold formOK at hf
    simp only [Bool.false_or, Bool.and_eq_true, decide_eq_true_iff] at hf
    have hn := hf.1.1.1.2
    rw [← hn, ba_cat]
    have := acc_size h hv (evAt M v.event).sets ((evAt M v.event).name ++ byW ++ userAt M v.user) v.vals.length
    rw [ba_cat, ba_cat] at this
    have := evAt_size h v.event
    have := userAt_size h v.user
    have : byW.size = 4 := rfl
    have : endW.size = 2 := rfl
    have := hv.1
    omega
theorem accL_size {M : Mdl} {t : Tr} (h : SmallM M) (hv : ∀ v ∈ t.moves, SmallV v) (k : Nat) (hk : k ≤ t.moves.length) (hok : linesOK M t k = true) : (accL M t k).size ≤ 2006 * k := by
  induction k with
  | zero => exact Nat.zero_le _
  | succ k ih =>
    rw [linesOK_succ, Bool.and_eq_true] at hok
    have ih := ih (by omega) hok.1
    rw [accL, ba_cat]
    have hm : t.moves.getD k ⟨0, 0, []⟩ ∈ t.moves := by
      rw [List.getD_eq_getElem?_getD, List.getElem?_eq_getElem (by omega)]
      exact List.getElem_mem _
    have := line_size h (hv _ hm) hok.2
    have : (if (k : Int) = t.loop then accL M t k ++ loopW else accL M t k).size ≤ (accL M t k).size + 6 := by
      split
      · rw [ba_cat]; exact Nat.le_refl _
      · omega
    omega

/-- the program's way: all pieces joined -/
def piecesL (A : List ByteArray) (S V : List Int) (k : Nat) : List ByteArray := (List.range k).map (pieceT A S V)
theorem piecesL_succ (A : List ByteArray) (S V : List Int) (k : Nat) : piecesL A S V (k + 1) = piecesL A S V k ++ [pieceT A S V k] := by simp [piecesL, List.range_succ]
theorem piecesL_len (A : List ByteArray) (S V : List Int) (k : Nat) : (piecesL A S V k).length = k := by simp [piecesL]
def joinB (l : List ByteArray) : ByteArray := ⟨(Lib.join (l.map (·.data.toList)) commaW.data.toList).toArray⟩
theorem ba_ext {a b : ByteArray} (h : a.data.toList = b.data.toList) : a = b := by
  cases a; cases b; simp at h; simpa using h
theorem ba_list (a b : ByteArray) : (a ++ b).data.toList = a.data.toList ++ b.data.toList := by simp [ByteArray.data_append]
theorem joinB_snoc (x : ByteArray) (l : List ByteArray) (y : ByteArray) : joinB (x :: l ++ [y]) = joinB (x :: l) ++ commaW ++ y := by
  apply ba_ext
  rw [ba_list, ba_list]
  unfold joinB
  simp only [List.cons_append, List.map_cons, List.map_append, List.map_nil, Lib.join_cons]
  have h := Lib.joinTail_take_succ commaW.data.toList ((l ++ [y]).map (·.data.toList)) l.length y.data.toList (by simp)
  rw [List.take_of_length_le (by simp)] at h
  rw [List.map_append, List.map_cons, List.map_nil] at h
  rw [h, List.take_append_of_le_length (by simp), List.take_of_length_le (by simp)]
  simp
theorem acc_join (A : List ByteArray) (S V : List Int) (b : ByteArray) (k : Nat) : accT A S V b (k + 1) = b ++ (setsW ++ joinB (piecesL A S V (k + 1))) := by
  induction k with
  | zero =>
    rw [accT, accT, if_pos rfl, ByteArray.append_assoc]
    congr 2
    unfold joinB piecesL
    simp [Lib.join_one]
  | succ k ih =>
    rw [accT, ih, if_neg (by omega), piecesL_succ A S V (k + 1)]
    cases e : piecesL A S V (k + 1) with
    | nil => have := piecesL_len A S V (k + 1); rw [e] at this; simp at this
    | cons x l =>
      rw [joinB_snoc]
      simp only [ByteArray.append_assoc]

end Go.Proofs.YtgmijfmbbaipfaaDoor
