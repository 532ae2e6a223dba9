/- Plain: formulas as trees, as lists, and as texts; no program in sight. -/
import Derived.Test.YthhjepgcbfmfeaaGreatDoorSb12
import Derived.Test.YthhjepgcbfmfeaaGreatDoorSb05
import Derived.Lib.ItoaNum

namespace Go.Proofs.YthhjepgcbfmfeaaGreatDoor
open Go.RowKit

/-- a formula as a tree: an item alone, put of a formula, put of two -/
inductive Fm where
  | leaf (x : It) (h : arN x.op = 0)
  | one (x : It) (h : arN x.op = 1) (f : Fm)
  | two (x : It) (h : arN x.op = 2) (f g : Fm)
def Fm.flat : Fm → List It
  | .leaf x _ => [x]
  | .one x _ f => f.flat ++ [x]
  | .two x _ f g => f.flat ++ g.flat ++ [x]
def Fm.op : Fm → Int
  | .leaf x _ => x.op
  | .one x _ _ => x.op
  | .two x _ _ _ => x.op
theorem Fm.flat_pos : ∀ f : Fm, 0 < f.flat.length
  | .leaf _ _ => by simp [Fm.flat]
  | .one _ _ _ => by simp [Fm.flat]
  | .two _ _ _ _ => by simp only [Fm.flat, List.length_append, List.length_cons, List.length_nil]; omega

/-- an item put on a row of formulas, the last one first -/
def pushF (x : It) (R : List Fm) : Option (List Fm) :=
  if h : arN x.op = 0 then some (.leaf x h :: R)
  else if h : arN x.op = 1 then (match R with | f :: S => some (.one x h f :: S) | [] => none)
  else if h : arN x.op = 2 then (match R with | g :: f :: S => some (.two x h f g :: S) | _ => none)
  else none
def buildF : List It → List Fm → Option (List Fm)
  | [], R => some R
  | x :: r, R => match pushF x R with | some S => buildF r S | none => none
def flats (R : List Fm) : List It := R.reverse.flatMap Fm.flat
theorem flats_cons (f : Fm) (R : List Fm) : flats (f :: R) = flats R ++ f.flat := by simp [flats]
theorem flats_nil : flats [] = [] := rfl
theorem pushF_flat {x : It} {R S : List Fm} (h : pushF x R = some S) : flats S = flats R ++ [x] := by
  unfold pushF at h
  split at h
  · cases h; rw [flats_cons]; rfl
  split at h
  · split at h
    · cases h; rw [flats_cons, flats_cons]; simp [Fm.flat]
    · cases h
  split at h
  · split at h
    · cases h; rw [flats_cons, flats_cons, flats_cons]; simp [Fm.flat]
    · cases h
  · cases h
theorem pushF_len {x : It} {R S : List Fm} (h : pushF x R = some S) : S.length ≤ R.length + 1 := by
  unfold pushF at h
  split at h
  · cases h; simp
  split at h
  · split at h
    · cases h; simp
    · cases h
  split at h
  · split at h
    · cases h; simp only [List.length_cons]; omega
    · cases h
  · cases h
theorem buildF_flat : ∀ (l : List It) (R S : List Fm), buildF l R = some S → flats S = flats R ++ l
  | [], R, S, h => by cases h; simp
  | x :: r, R, S, h => by
    rw [buildF] at h
    cases hp : pushF x R with
    | none => rw [hp] at h; cases h
    | some S1 =>
      rw [hp] at h
      rw [buildF_flat r S1 S h, pushF_flat hp, List.append_assoc]
      rfl
theorem buildF_tree : ∀ (f : Fm) (r : List It) (R : List Fm), buildF (f.flat ++ r) R = buildF r (f :: R)
  | .leaf x h, r, R => by
    simp only [Fm.flat, List.cons_append, List.nil_append, buildF]
    have : pushF x R = some (.leaf x h :: R) := by unfold pushF; rw [dif_pos h]
    rw [this]
  | .one x h f, r, R => by
    simp only [Fm.flat, List.append_assoc]
    rw [buildF_tree f]
    simp only [List.cons_append, List.nil_append, buildF]
    have : pushF x (f :: R) = some (.one x h f :: R) := by unfold pushF; rw [dif_neg (by omega), dif_pos h]
    rw [this]
  | .two x h f g, r, R => by
    simp only [Fm.flat, List.append_assoc]
    rw [buildF_tree f, buildF_tree g]
    simp only [List.cons_append, List.nil_append, buildF]
    have : pushF x (g :: f :: R) = some (.two x h f g :: R) := by unfold pushF; rw [dif_neg (by omega), dif_neg (by omega), dif_pos h]
    rw [this]

/-- the formula that a list is -/
def treeF (l : List It) : Option Fm := match buildF l [] with | some [f] => some f | _ => none
theorem treeF_flat {l : List It} {f : Fm} (h : treeF l = some f) : f.flat = l := by
  unfold treeF at h
  split at h
  · rename_i g hg
    cases h
    have := buildF_flat _ _ _ hg
    simpa [flats] using this
  · cases h
theorem treeF_of (f : Fm) : treeF f.flat = some f := by
  unfold treeF
  have := buildF_tree f [] []
  rw [List.append_nil] at this
  rw [this]; rfl

/-- why a list may be no formula -/
def chkN (l : List It) : Int := if l.length = 0 then 12 else if 64 < l.length then 3 else match treeF l with | some _ => 0 | none => 17
theorem chk_ok {l : List It} (h : chkN l = 0) : 0 < l.length ∧ l.length ≤ 64 ∧ ∃ f : Fm, f.flat = l := by
  unfold chkN at h
  split at h
  · omega
  split at h
  · omega
  split at h
  · rename_i f hf
    exact ⟨by omega, by omega, f, treeF_flat hf⟩
  · omega
theorem chk_no {l : List It} (h : chkN l ≠ 0) : chkN l = 12 ∨ chkN l = 3 ∨ chkN l = 17 := by
  unfold chkN at h ⊢
  split
  · exact .inl rfl
  split
  · exact .inr (.inl rfl)
  split
  · rename_i f hf
    rw [if_neg (by assumption), if_neg (by assumption), hf] at h
    exact absurd rfl h
  · exact .inr (.inr rfl)
theorem arN_in (op : Int) : -1 ≤ arN op ∧ arN op ≤ 2 := by
  unfold arN
  repeat' split
  all_goals omega

/-! where a part begins, counted from its end -/
def itAt (l : List It) (i : Nat) : It := match l[i]? with | some x => x | none => ⟨0, ⟨#[]⟩, 0, ⟨#[]⟩, 0, ⟨#[]⟩, ⟨#[]⟩, 0, 0⟩
def begB (l : List It) : Nat → Int → Int
  | 0, _ => -1
  | i + 1, want => if arN (itAt l i).op < 0 then -1 else if want + arN (itAt l i).op - 1 = 0 then (i : Int) else begB l i (want + arN (itAt l i).op - 1)
theorem itAt_mid (A B : List It) (x : It) : itAt (A ++ x :: B) A.length = x := by simp [itAt]
theorem begB_step (A B : List It) (x : It) (want : Int) : begB (A ++ x :: B) (A.length + 1) want = if arN x.op < 0 then -1 else if want + arN x.op - 1 = 0 then (A.length : Int) else begB (A ++ x :: B) A.length (want + arN x.op - 1) := by
  rw [begB, itAt_mid]
theorem begB_tree : ∀ (f : Fm) (A B : List It) (want : Int), 1 ≤ want → begB (A ++ f.flat ++ B) (A.length + f.flat.length) want = if want = 1 then (A.length : Int) else begB (A ++ f.flat ++ B) A.length (want - 1)
  | .leaf x h, A, B, want, hw => by
    simp only [Fm.flat, List.append_assoc, List.cons_append, List.nil_append, List.length_cons, List.length_nil, Nat.zero_add]
    rw [begB_step, h, if_neg (by omega)]
    by_cases h1 : want = 1
    · rw [if_pos (by omega), if_pos h1]
    · rw [if_neg (by omega), if_neg h1]
      rw [show want + 0 - 1 = want - 1 by omega]
  | .one x h f, A, B, want, hw => by
    have e1 : A ++ (Fm.one x h f).flat ++ B = (A ++ f.flat) ++ x :: B := by simp [Fm.flat]
    have e2 : A.length + (Fm.one x h f).flat.length = (A ++ f.flat).length + 1 := by simp [Fm.flat]; omega
    rw [e1, e2, begB_step, h, if_neg (by omega), if_neg (by omega)]
    have := begB_tree f A (x :: B) want hw
    rw [show want + 1 - 1 = want by omega, List.length_append]
    exact this
  | .two x h f g, A, B, want, hw => by
    have e1 : A ++ (Fm.two x h f g).flat ++ B = (A ++ f.flat ++ g.flat) ++ x :: B := by simp [Fm.flat]
    have e2 : A.length + (Fm.two x h f g).flat.length = (A ++ f.flat ++ g.flat).length + 1 := by simp [Fm.flat]; omega
    rw [e1, e2, begB_step, h, if_neg (by omega), if_neg (by omega)]
    have hg := begB_tree g (A ++ f.flat) (x :: B) (want + 2 - 1) (by omega)
    rw [if_neg (by omega)] at hg
    rw [List.length_append, hg]
    have hf := begB_tree f A (g.flat ++ x :: B) want hw
    have e3 : A ++ f.flat ++ (g.flat ++ x :: B) = A ++ f.flat ++ g.flat ++ x :: B := by simp
    rw [e3] at hf
    rw [show want + 2 - 1 - 1 = want by omega, List.length_append, hf]
theorem begB_some : ∀ (l : List It) (n : Nat) (want : Int), n ≤ l.length → 1 ≤ want → begB l n want = 0 → ∃ S : List Fm, (S.length : Int) = want ∧ flats S = l.take n
  | l, 0, want, _, _, h => by rw [begB] at h; omega
  | l, i + 1, want, hn, hw, h => by
    rw [begB] at h
    obtain ⟨x, hx⟩ : ∃ x, l[i]? = some x := ⟨_, List.getElem?_eq_getElem (by omega)⟩
    have hi : itAt l i = x := by unfold itAt; rw [hx]
    have ht : l.take (i + 1) = l.take i ++ [x] := by rw [List.take_add_one, hx]; rfl
    rw [hi] at h
    split at h
    · omega
    have := arN_in x.op
    split at h
    · rename_i h0 h1
      have hi0 : i = 0 := by omega
      subst hi0
      have ha : arN x.op = 0 := by omega
      exact ⟨[.leaf x ha], by simp; omega, by rw [ht]; simp [flats, Fm.flat]⟩
    · obtain ⟨S, hS, hf⟩ := begB_some l i _ (by omega) (by omega) h
      have h3 : arN x.op = 0 ∨ arN x.op = 1 ∨ arN x.op = 2 := by omega
      rcases h3 with ha | ha | ha
      · exact ⟨.leaf x ha :: S, by simp; omega, by rw [flats_cons, hf, ht]; rfl⟩
      · match S, hS, hf with
        | f :: S, hS, hf => exact ⟨.one x ha f :: S, by simp at hS ⊢; omega, by rw [flats_cons] at hf ⊢; rw [ht, ← hf]; simp [Fm.flat]⟩
        | [], hS, _ => simp at hS; omega
      · match S, hS, hf with
        | g :: f :: S, hS, hf => exact ⟨.two x ha f g :: S, by simp at hS ⊢; omega, by rw [flats_cons, flats_cons] at hf; rw [flats_cons, ht, ← hf]; simp [Fm.flat]⟩
        | [f], hS, _ => simp at hS; omega
        | [], hS, _ => simp at hS; omega
theorem begB_treeF (l : List It) : begB l l.length 1 = 0 ↔ ∃ f, treeF l = some f := by
  constructor
  · intro h
    obtain ⟨S, hS, hf⟩ := begB_some l _ 1 (Nat.le_refl _) (by omega) h
    match S, hS, hf with
    | [f], _, hf =>
      have : f.flat = l := by simpa [flats] using hf
      exact ⟨f, by rw [← this]; exact treeF_of f⟩
  · rintro ⟨f, hf⟩
    have hfl := treeF_flat hf
    have := begB_tree f [] [] 1 (by omega)
    rw [if_pos rfl] at this
    simpa [hfl] using this
theorem begB_range (l : List It) : ∀ (n : Nat) (want : Int), -1 ≤ begB l n want ∧ begB l n want < n ∨ begB l n want = -1
  | 0, _ => .inr rfl
  | i + 1, want => by
    rw [begB]
    split
    · exact .inr rfl
    split
    · exact .inl ⟨by omega, by omega⟩
    · rcases begB_range l i (want + arN (itAt l i).op - 1) with h | h
      · exact .inl ⟨h.1, by omega⟩
      · exact .inr h

/-! texts -/
def nil8 : ByteArray := ⟨#[]⟩
def sp8 : ByteArray := ⟨#[32]⟩
def signsL : List ByteArray := [⟨#[116, 114, 117, 101]⟩, ⟨#[102, 97, 108, 115, 101]⟩, ⟨#[60]⟩, ⟨#[60, 61]⟩, ⟨#[62]⟩, ⟨#[62, 61]⟩, ⟨#[61]⟩, ⟨#[33, 61]⟩, wOpen, wDone, wCan, wDid, wComplete, wStuck, wNot, wAnd, wOr, wImplies,
  ⟨#[65, 88]⟩, ⟨#[69, 88]⟩, ⟨#[65, 70]⟩, ⟨#[69, 70]⟩, ⟨#[65, 71]⟩, ⟨#[69, 71]⟩, wA, wE]
def signB (op : Int) : ByteArray := if op < 1 ∨ 26 < op then nil8 else match signsL[(op - 1).toNat]? with | some s => s | none => nil8
theorem signB_size (op : Int) : (signB op).size ≤ 8 := by
  have h : ∀ s ∈ signsL, s.size ≤ 8 := by decide +kernel
  unfold signB
  split
  · decide
  split
  · rename_i hs; exact h _ (List.mem_of_getElem? hs)
  · decide
/-- is a byte one that a name may have, the first one or a later one? -/
def nameByte (first : Bool) (b : UInt8) : Bool := (decide (97 ≤ b.toNat) && decide (b.toNat ≤ 122)) || (!first && ((decide (48 ≤ b.toNat) && decide (b.toNat ≤ 57)) || decide (b.toNat = 95)))
def nameL : List UInt8 → Bool
  | [] => false
  | b :: r => nameByte true b && r.all (nameByte false)
def nameOK (s : ByteArray) : Bool := nameL s.data.toList && decide (s.size ≤ 16) && !knownB s
def wordTx (n : ByteArray) (k : Int) : ByteArray := if n.size = 0 then ⟨(Lib.itoa k).toArray⟩ else n
def wordNm (n : ByteArray) : Bool := decide (n.size = 0) || nameOK n
def atomTx (x : It) : ByteArray :=
  if 3 ≤ x.op ∧ x.op ≤ 8 then wordTx x.ln x.lnum ++ sp8 ++ signB x.op ++ sp8 ++ wordTx x.rn x.rnum
  else if x.op = 12 then signB 12 ++ sp8 ++ x.user ++ sp8 ++ x.name
  else if 9 ≤ x.op ∧ x.op ≤ 11 then signB x.op ++ sp8 ++ x.name
  else signB x.op
def namedB (x : It) : Bool :=
  if 3 ≤ x.op ∧ x.op ≤ 8 then wordNm x.ln && wordNm x.rn
  else if x.op = 12 then nameOK x.user && nameOK x.name
  else if 9 ≤ x.op ∧ x.op ≤ 11 then nameOK x.name
  else true
def tightN (op : Int) : Int := if op = 18 then 1 else if op = 17 then 2 else if op = 16 then 3 else 4
def brk8 (b : Bool) (s : ByteArray) : ByteArray := if b then (⟨#[40]⟩ : ByteArray) ++ s ++ (⟨#[41]⟩ : ByteArray) else s
def inF (t least : Int) (s : ByteArray) : ByteArray := brk8 (decide (t < least)) s
def twoTx (op : Int) (tf : Int) (f : ByteArray) (tg : Int) (g : ByteArray) : ByteArray :=
  if op = 16 then inF tf 3 f ++ sp8 ++ signB 16 ++ sp8 ++ inF tg 4 g
  else if op = 17 then inF tf 2 f ++ sp8 ++ signB 17 ++ sp8 ++ inF tg 3 g
  else if op = 18 then inF tf 2 f ++ sp8 ++ signB 18 ++ sp8 ++ inF tg 1 g
  else signB op ++ (⟨#[32, 91]⟩ : ByteArray) ++ f ++ (⟨#[32, 85, 32]⟩ : ByteArray) ++ g ++ (⟨#[93]⟩ : ByteArray)
def textF : Fm → ByteArray
  | .leaf x _ => atomTx x
  | .one x _ f => signB x.op ++ sp8 ++ inF (tightN f.op) 4 (textF f)
  | .two x _ f g => twoTx x.op (tightN f.op) (textF f) (tightN g.op) (textF g)

/-- a formula's text, or why it has none -/
def formR (l : List It) : ByteArray × Int :=
  if chkN l ≠ 0 then (nil8, chkN l) else if l.all namedB = false then (nil8, 17) else match treeF l with | some f => (textF f, 0) | none => (nil8, 17)
theorem formR_of (f : Fm) (h : f.flat.length ≤ 64) : formR f.flat = if f.flat.all namedB = false then (nil8, 17) else (textF f, 0) := by
  have h0 : chkN f.flat = 0 := by unfold chkN; have := f.flat_pos; rw [if_neg (by omega), if_neg (by omega), treeF_of]
  unfold formR; rw [h0, treeF_of]; simp

/-! sizes -/
/-- the texts of an item are short -/
def Short (x : It) : Prop := x.ln.size ≤ 60 ∧ x.rn.size ≤ 60 ∧ x.name.size ≤ 60 ∧ x.user.size ≤ 60 ∧ (-9223372036854775808 ≤ x.lnum ∧ x.lnum ≤ 9223372036854775807) ∧ (-9223372036854775808 ≤ x.rnum ∧ x.rnum ≤ 9223372036854775807)
theorem decDigits_len : ∀ (k n : Nat), 0 < k → n < 10 ^ k → (Lib.decDigits n).length ≤ k
  | 0, _, h, _ => by omega
  | k + 1, n, _, h => by
    rw [Lib.decDigits]
    split
    · simp
    · rename_i hn
      have : n / 10 < 10 ^ k := by rw [Nat.pow_succ] at h; omega
      have hk : 0 < k := by
        rcases Nat.eq_zero_or_pos k with h0 | h0
        · subst h0; simp at this; omega
        · exact h0
      have := decDigits_len k (n / 10) hk this
      simp; omega
theorem itoa_len (n : Int) (h : -9223372036854775808 ≤ n ∧ n ≤ 9223372036854775807) : (Lib.itoa n).length ≤ 20 := by
  unfold Lib.itoa
  split
  · have := decDigits_len 19 n.natAbs (by decide) (by omega)
    simp; omega
  · have := decDigits_len 19 n.toNat (by decide) (by omega)
    omega
theorem wordTx_size {n : ByteArray} {k : Int} (h : n.size ≤ 60) (hk : -9223372036854775808 ≤ k ∧ k ≤ 9223372036854775807) : (wordTx n k).size ≤ 60 := by
  unfold wordTx
  split
  · have := itoa_len k hk
    show (Lib.itoa k).toArray.size ≤ 60
    simp; omega
  · exact h
theorem sp8_size : sp8.size = 1 := rfl
theorem atomTx_size {x : It} (h : Short x) : (atomTx x).size ≤ 140 := by
  obtain ⟨h1, h2, h3, h4, h5, h6⟩ := h
  have s := signB_size x.op
  have s12 := signB_size 12
  have w1 := wordTx_size h1 h5
  have w2 := wordTx_size h2 h6
  unfold atomTx
  split
  · simp only [ByteArray.size_append, sp8_size]; omega
  split
  · simp only [ByteArray.size_append, sp8_size]; omega
  split
  · simp only [ByteArray.size_append, sp8_size]; omega
  · omega
theorem inF_size (t least : Int) (s : ByteArray) : (inF t least s).size ≤ s.size + 2 := by
  unfold inF brk8
  split
  · simp only [ByteArray.size_append, show (⟨#[40]⟩ : ByteArray).size = 1 from rfl, show (⟨#[41]⟩ : ByteArray).size = 1 from rfl]; omega
  · omega
theorem twoTx_size (op tf : Int) (f : ByteArray) (tg : Int) (g : ByteArray) : (twoTx op tf f tg g).size ≤ f.size + g.size + 14 := by
  have s16 := signB_size 16
  have s17 := signB_size 17
  have s18 := signB_size 18
  have s := signB_size op
  have a3 := inF_size tf 3 f
  have a2 := inF_size tf 2 f
  have b4 := inF_size tg 4 g
  have b3 := inF_size tg 3 g
  have b1 := inF_size tg 1 g
  unfold twoTx
  split
  · simp only [ByteArray.size_append, sp8_size]; omega
  split
  · simp only [ByteArray.size_append, sp8_size]; omega
  split
  · simp only [ByteArray.size_append, sp8_size]; omega
  · simp only [ByteArray.size_append, show (⟨#[32, 91]⟩ : ByteArray).size = 2 from rfl, show (⟨#[32, 85, 32]⟩ : ByteArray).size = 3 from rfl, show (⟨#[93]⟩ : ByteArray).size = 1 from rfl]; omega
theorem textF_size : ∀ f : Fm, (∀ x ∈ f.flat, Short x) → (textF f).size ≤ 140 * f.flat.length
  | .leaf x h, hs => by
    have := atomTx_size (hs x (by simp [Fm.flat]))
    simp only [textF, Fm.flat, List.length_cons, List.length_nil]; omega
  | .one x h f, hs => by
    have i := textF_size f (fun y hy => hs y (by simp [Fm.flat, hy]))
    have s := signB_size x.op
    have a := inF_size (tightN f.op) 4 (textF f)
    simp only [textF, Fm.flat, List.length_append, List.length_cons, List.length_nil, ByteArray.size_append, sp8_size]; omega
  | .two x h f g, hs => by
    have i := textF_size f (fun y hy => hs y (by simp [Fm.flat, hy]))
    have j := textF_size g (fun y hy => hs y (by simp [Fm.flat, hy]))
    have a := twoTx_size x.op (tightN f.op) (textF f) (tightN g.op) (textF g)
    simp only [textF, Fm.flat, List.length_append, List.length_cons, List.length_nil]; omega

end Go.Proofs.YthhjepgcbfmfeaaGreatDoor
