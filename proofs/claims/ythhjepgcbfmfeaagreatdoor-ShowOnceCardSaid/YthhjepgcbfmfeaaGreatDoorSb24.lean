/- Plain: a formula's tokens are read as that formula, but for places, if it is not too deep. -/
import Derived.Test.YthhjepgcbfmfeaaGreatDoorSb14
import Derived.Test.YthhjepgcbfmfeaaGreatDoorSb23

namespace Go.Proofs.YthhjepgcbfmfeaaGreatDoor
open Go.RowKit

/-- what of an item a text tells -/
def nmI (n : ByteArray) : ByteArray := if n.size = 0 then ⟨#[]⟩ else n
def nuI (n : ByteArray) (k : Int) : Int := if n.size = 0 then k else 0
def canI (x : It) : It :=
  if 3 ≤ x.op ∧ x.op ≤ 8 then ⟨x.op, nmI x.ln, nuI x.ln x.lnum, nmI x.rn, nuI x.rn x.rnum, ⟨#[]⟩, ⟨#[]⟩, 0, 0⟩
  else if x.op = 12 then ⟨12, ⟨#[]⟩, 0, ⟨#[]⟩, 0, x.name, x.user, 0, 0⟩
  else if 9 ≤ x.op ∧ x.op ≤ 11 then ⟨x.op, ⟨#[]⟩, 0, ⟨#[]⟩, 0, x.name, ⟨#[]⟩, 0, 0⟩
  else ⟨x.op, ⟨#[]⟩, 0, ⟨#[]⟩, 0, ⟨#[]⟩, ⟨#[]⟩, 0, 0⟩
theorem canI_high {x : It} (h : 13 ≤ x.op) : canI x = ⟨x.op, ⟨#[]⟩, 0, ⟨#[]⟩, 0, ⟨#[]⟩, ⟨#[]⟩, 0, 0⟩ := by
  unfold canI; rw [if_neg (by omega), if_neg (by omega), if_neg (by omega)]

/-- how much depth a formula's text wants -/
def lv (least t : Int) (n : Nat) : Nat := if t < least then n + 1 else n
def needF : Fm → Nat
  | .leaf _ _ => 1
  | .one _ _ f => lv 4 (tightN f.op) (needF f) + 1
  | .two x _ f g => if x.op = 16 then max (lv 3 (tightN f.op) (needF f)) (lv 4 (tightN g.op) (needF g))
      else if x.op = 17 then max (lv 2 (tightN f.op) (needF f)) (lv 3 (tightN g.op) (needF g))
      else if x.op = 18 then max (lv 2 (tightN f.op) (needF f)) (needF g + 1)
      else max (needF f) (needF g) + 1

/-- tokens stand from a place on -/
def AtT (T : List Tk) (i : Nat) (U : List Tk) : Prop := ∀ (k : Nat) (x : Tk), U[k]? = some x → Twin2 x (tkAt T ((i + k : Nat) : Int))
theorem AtT.app {T : List Tk} {i : Nat} {U V : List Tk} (h : AtT T i (U ++ V)) : AtT T i U ∧ AtT T (i + U.length) V := by
  refine ⟨fun k x hx => h k x ?_, fun k x hx => ?_⟩
  · rw [List.getElem?_append_left (List.getElem?_eq_some_iff.1 hx).1]; exact hx
  · rw [Nat.add_assoc]
    exact h (U.length + k) x (by rw [List.getElem?_append_right (by omega), show U.length + k - U.length = k by omega]; exact hx)
theorem AtT.hd {T : List Tk} {i : Nat} {x : Tk} {U : List Tk} (h : AtT T i (x :: U)) : Twin2 x (tkAt T (i : Int)) ∧ AtT T (i + 1) U :=
  ⟨h 0 x rfl, (AtT.app (U := [x]) h).2⟩
theorem isTk_tw {T : List Tk} {i : Int} {x : Tk} (h : Twin2 x (tkAt T i)) (kind : Int) (s : ByteArray) : isTk T i kind s = (decide (x.kind = kind) && decide (x.text = s)) := by
  unfold isTk; rw [h.1, h.2.1]

/-- read, and where; or too deep -/
def GR (r : PR) (j : Nat) (l : List It) : Prop := ∃ o, r = .ok o (j : Int) ∧ barL o = l.map canI
def BR (r : PR) : Prop := ∃ l c, r = .bad 5 l c
def SPd (T : List Tk) (U : List Tk) (l : List It) (m : Nat) : Prop := ∀ n i : Nat, AtT T i U → (m ≤ n → GR ((bothP T true n).1 i) (i + U.length) l) ∧ (n < m → BR ((bothP T true n).1 i))
/-- a row that is read so far -/
def AR (T : List Tk) (one : Int → PR) (wd : ByteArray) (op : Int) (r : PR) (i j : Nat) (l : List It) : Prop := ∃ o k, r = rowP T one wd op k (j : Int) o ∧ T.length + 1 + i ≤ k + j ∧ barL o = l.map canI
def APd (T : List Tk) (U : List Tk) (l : List It) (m : Nat) : Prop := ∀ n i : Nat, AtT T i U → (m ≤ n → AR T (bothP T true n).1 wAnd 16 (rowsP T (bothP T true n).1 wAnd 16 i) i (i + U.length) l) ∧ (n < m → BR (rowsP T (bothP T true n).1 wAnd 16 i))
def OPd (T : List Tk) (U : List Tk) (l : List It) (m : Nat) : Prop := ∀ n i : Nat, AtT T i U → isTk T ((i + U.length : Nat) : Int) 2 wAnd = false →
  (m ≤ n → AR T (rowsP T (bothP T true n).1 wAnd 16) wOr 17 (rowsP T (rowsP T (bothP T true n).1 wAnd 16) wOr 17 i) i (i + U.length) l) ∧ (n < m → BR (rowsP T (rowsP T (bothP T true n).1 wAnd 16) wOr 17 i))
def FPd (T : List Tk) (U : List Tk) (l : List It) (m : Nat) : Prop := ∀ n i : Nat, AtT T i U → isTk T ((i + U.length : Nat) : Int) 2 wAnd = false → isTk T ((i + U.length : Nat) : Int) 2 wOr = false → isTk T ((i + U.length : Nat) : Int) 2 wImplies = false →
  (m ≤ n → GR ((bothP T true n).2 i) (i + U.length) l) ∧ (n < m → BR ((bothP T true n).2 i))

theorem rowP_stop {T : List Tk} {one : Int → PR} {wd : ByteArray} {op i : Int} {o : List It} (h : isTk T i 2 wd = false) : ∀ k, rowP T one wd op k i o = .ok o i
  | 0 => rfl
  | k + 1 => by rw [rowP, h]; rfl
theorem AR.stop {T : List Tk} {one : Int → PR} {wd : ByteArray} {op : Int} {r : PR} {i j : Nat} {l : List It} (h : AR T one wd op r i j l) (hs : isTk T (j : Int) 2 wd = false) : GR r j l := by
  obtain ⟨o, k, e, _, hl⟩ := h
  exact ⟨o, by rw [e, rowP_stop hs], hl⟩
theorem BR.also {r : PR} (h : BR r) (f : List It → Int → PR) : BR (r.also f) := by
  obtain ⟨l, c, rfl⟩ := h; exact ⟨l, c, rfl⟩
theorem rows_one {T : List Tk} {one : Int → PR} (wd : ByteArray) (op : Int) {i j : Nat} {l : List It} (h : GR (one i) j l) (hij : i ≤ j) : AR T one wd op (rowsP T one wd op i) i j l := by
  obtain ⟨o, e, hl⟩ := h
  exact ⟨o, T.length + 1, by unfold rowsP; rw [e]; rfl, by omega, hl⟩
theorem rows_bad {T : List Tk} {one : Int → PR} (wd : ByteArray) (op : Int) {i : Nat} (h : BR (one i)) : BR (rowsP T one wd op i) := h.also _
theorem SPd.and {T : List Tk} {U : List Tk} {l : List It} {m : Nat} (h : SPd T U l m) : APd T U l m := fun n i hA =>
  ⟨fun hn => rows_one wAnd 16 ((h n i hA).1 hn) (by omega), fun hn => rows_bad wAnd 16 ((h n i hA).2 hn)⟩
theorem APd.or {T : List Tk} {U : List Tk} {l : List It} {m : Nat} (h : APd T U l m) : OPd T U l m := fun n i hA hs =>
  ⟨fun hn => rows_one wOr 17 (((h n i hA).1 hn).stop hs) (by omega), fun hn => rows_bad wOr 17 ((h n i hA).2 hn)⟩
theorem both_form (T : List Tk) (n : Nat) (i : Int) : (bothP T true (n + 1)).2 i = formP T (bothP T true (n + 1)).1 (bothP T true n).2 i := rfl
theorem OPd.form {T : List Tk} {U : List Tk} {l : List It} {m : Nat} (h : OPd T U l m) (hm : 1 ≤ m) : FPd T U l m := fun n i hA h1 h2 h3 => by
  cases n with
  | zero => exact ⟨fun hn => absurd hn (by omega), fun _ => ⟨_, _, rfl⟩⟩
  | succ n =>
    rw [both_form]
    unfold formP
    refine ⟨fun hn => ?_, fun hn => ((h (n + 1) i hA h1).2 hn).also _⟩
    obtain ⟨o, e, hl⟩ := ((h (n + 1) i hA h1).1 hn).stop h2
    rw [e]
    refine ⟨o, ?_, hl⟩
    show (if isTk T ((i + U.length : Nat) : Int) 2 wImplies then _ else _) = _
    rw [h3]; rfl
/-- in brackets -/
theorem both_sign (T : List Tk) (n : Nat) (i : Int) : (bothP T true (n + 1)).1 i = signP T true (bothP T true n).1 (bothP T true n).2 i := rfl
theorem FPd.brk {T : List Tk} {U : List Tk} {l : List It} {m : Nat} (h : FPd T U l m) : SPd T (opnTk :: (U ++ [clsTk])) l (m + 1) := fun n i hA => by
  cases n with
  | zero => exact ⟨fun hn => absurd hn (by omega), fun _ => ⟨_, _, rfl⟩⟩
  | succ n =>
    rw [both_sign]
    obtain ⟨h0, hA1⟩ := hA.hd
    obtain ⟨hU, hc⟩ := hA1.app
    obtain ⟨hc, _⟩ := hc.hd
    have e0 : isTk T (i : Int) 4 sOpen = true := by rw [isTk_tw h0]; decide
    have nk : ∀ wd, isTk T ((i + 1 + U.length : Nat) : Int) 2 wd = false := fun wd => by rw [isTk_tw hc]; rfl
    have ec : isTk T ((i + 1 + U.length : Nat) : Int) 4 sClose = true := by rw [isTk_tw hc]; decide
    unfold signP
    rw [if_pos e0]
    have H := h n (i + 1) hU (nk _) (nk _) (nk _)
    refine ⟨fun hn => ?_, fun hn => (H.2 (by omega)).also _⟩
    obtain ⟨o, e, hl⟩ := H.1 (by omega)
    refine ⟨o, ?_, hl⟩
    rw [show (i : Int) + 1 = ((i + 1 : Nat) : Int) from rfl, e]
    show needP T ((i + 1 + U.length : Nat) : Int) 4 sClose _ = _
    unfold needP
    rw [if_pos ec]
    congr 1
    simp only [List.length_cons, List.length_append, List.length_nil]
    omega

/-! an atom -/
theorem tight_le (op : Int) : 1 ≤ tightN op ∧ tightN op ≤ 4 := by
  unfold tightN
  repeat' split
  all_goals omega
theorem needF_pos : ∀ f : Fm, 1 ≤ needF f
  | .leaf _ _ => Nat.le_refl _
  | .one _ _ f => by unfold needF; omega
  | .two x _ f g => by
    have a := needF_pos f
    have b := needF_pos g
    unfold needF lv
    repeat' split
    all_goals omega

theorem word_tk {T : List Tk} {i : Int} {a : ByteArray} {k : Int} (h : Twin2 (wordTk a k) (tkAt T i)) : (tkAt T i).kind ≠ 4 ∧ (tkAt T i).kind ≠ 2 ∧ isWord (tkAt T i) = true ∧ wordName (tkAt T i) = nmI a ∧ wordNum (tkAt T i) = nuI a k := by
  obtain ⟨h1, h2, h3⟩ := h
  unfold isWord wordName wordNum nmI nuI
  unfold wordTk at h1 h2 h3
  by_cases hz : a.size = 0
  · rw [if_pos hz] at h1 h2 h3
    rw [h1, h3, if_pos hz, if_pos hz]
    exact ⟨show (3 : Int) ≠ 4 by decide, show (3 : Int) ≠ 2 by decide, rfl, rfl, rfl⟩
  · rw [if_neg hz] at h1 h2 h3
    rw [h1, h2, if_neg hz, if_neg hz]
    exact ⟨show (1 : Int) ≠ 4 by decide, show (1 : Int) ≠ 2 by decide, rfl, rfl, rfl⟩
theorem comp_tk {T : List Tk} {i : Int} {op : Int} (hop : 3 ≤ op ∧ op ≤ 8) (h : Twin2 (opTk op) (tkAt T i)) : compN T i = op := by
  obtain ⟨h1, h2, h3⟩ := h
  unfold opTk tk0 at h1 h2
  rw [if_pos hop] at h1
  unfold compN
  rw [h1, h2]
  rcases (show op = 3 ∨ op = 4 ∨ op = 5 ∨ op = 6 ∨ op = 7 ∨ op = 8 by omega) with rfl | rfl | rfl | rfl | rfl | rfl <;> decide +kernel
theorem bare_eq {x : It} {a b : Int} {op ln lnum rn rnum name user} (h : x = ⟨op, ln, lnum, rn, rnum, name, user, a, b⟩) : x.bare = ⟨op, ln, lnum, rn, rnum, name, user, 0, 0⟩ := by subst h; rfl

theorem read_cmp {T : List Tk} {x : It} (hop : 3 ≤ x.op ∧ x.op ≤ 8) : SPd T (atomTk x) [x] 1 := fun n i hA => by
  cases n with
  | zero => exact ⟨fun hn => absurd hn (by omega), fun _ => ⟨_, _, rfl⟩⟩
  | succ n =>
    refine ⟨fun _ => ?_, fun hn => absurd hn (by omega)⟩
    have eU : atomTk x = [wordTk x.ln x.lnum, opTk x.op, wordTk x.rn x.rnum] := by unfold atomTk; rw [if_pos hop]
    rw [eU] at hA ⊢
    obtain ⟨h0, hA⟩ := hA.hd
    obtain ⟨h1, hA⟩ := hA.hd
    obtain ⟨h2, _⟩ := hA.hd
    obtain ⟨a1, a2, a3, a4, a5⟩ := word_tk h0
    obtain ⟨b1, b2, b3, b4, b5⟩ := word_tk h2
    have hc := comp_tk hop h1
    have e0 : isTk T (i : Int) 4 sOpen = false := by unfold isTk; rw [decide_eq_false a1]; rfl
    rw [both_sign]
    unfold signP
    rw [if_neg (by rw [e0]; simp), if_pos a2]
    unfold compP
    rw [show (i : Int) + 1 = ((i + 1 : Nat) : Int) from rfl, show (i : Int) + 2 = ((i + 1 + 1 : Nat) : Int) from rfl, if_pos a3, if_neg (by rw [hc]; omega), if_pos b3, hc, a4, a5, b4, b5]
    refine ⟨_, rfl, ?_⟩
    show [It.bare _] = [canI x]
    unfold canI
    rw [if_pos hop]; rfl
theorem read_kw {T : List Tk} {x : It} (hop : x.op = 1 ∨ x.op = 2 ∨ x.op = 13 ∨ x.op = 14) : SPd T (atomTk x) [x] 1 := fun n i hA => by
  cases n with
  | zero => exact ⟨fun hn => absurd hn (by omega), fun _ => ⟨_, _, rfl⟩⟩
  | succ n =>
    refine ⟨fun _ => ?_, fun hn => absurd hn (by omega)⟩
    have eU : atomTk x = [opTk x.op] := by unfold atomTk; rw [if_neg (by omega), if_neg (by omega), if_neg (by omega)]
    have eC : canI x = ⟨x.op, ⟨#[]⟩, 0, ⟨#[]⟩, 0, ⟨#[]⟩, ⟨#[]⟩, 0, 0⟩ := by unfold canI; rw [if_neg (by omega), if_neg (by omega), if_neg (by omega)]
    rw [eU] at hA ⊢
    obtain ⟨⟨h1, h2, _⟩, _⟩ := hA.hd
    unfold opTk tk0 at h1 h2
    rw [if_neg (by omega)] at h1
    have e0 : isTk T (i : Int) 4 sOpen = false := by unfold isTk; rw [h1]; rfl
    rw [both_sign]
    unfold signP atomP
    rw [if_neg (by rw [e0]; simp), if_neg (by rw [h1]; simp), h2]
    refine ⟨[item x.op (tkAt T i)], ?_, ?_⟩
    · rcases hop with h | h | h | h <;> rw [h] <;> simp +decide only [if_true, if_false] <;> rfl
    · show [It.bare _] = [canI x]
      rw [eC]; rfl

theorem name_tk {T : List Tk} {i : Int} {a : ByteArray} (h : Twin2 (tk0 1 a 0) (tkAt T i)) : (tkAt T i).kind = 1 ∧ (tkAt T i).text = a := ⟨h.1, h.2.1⟩
theorem read_of {T : List Tk} {x : It} (hop : x.op = 9 ∨ x.op = 10 ∨ x.op = 11) : SPd T (atomTk x) [x] 1 := fun n i hA => by
  cases n with
  | zero => exact ⟨fun hn => absurd hn (by omega), fun _ => ⟨_, _, rfl⟩⟩
  | succ n =>
    refine ⟨fun _ => ?_, fun hn => absurd hn (by omega)⟩
    have eU : atomTk x = [opTk x.op, tk0 1 x.name 0] := by unfold atomTk; rw [if_neg (by omega), if_neg (by omega), if_pos (by omega)]
    have eC : canI x = ⟨x.op, ⟨#[]⟩, 0, ⟨#[]⟩, 0, x.name, ⟨#[]⟩, 0, 0⟩ := by unfold canI; rw [if_neg (by omega), if_neg (by omega), if_pos (by omega)]
    rw [eU] at hA ⊢
    obtain ⟨⟨h1, h2, _⟩, hA⟩ := hA.hd
    obtain ⟨hN, _⟩ := hA.hd
    obtain ⟨n1, n2⟩ := name_tk hN
    unfold opTk tk0 at h1 h2
    rw [if_neg (by omega)] at h1
    have e0 : isTk T (i : Int) 4 sOpen = false := by unfold isTk; rw [h1]; rfl
    have eN : ∀ op, namedP T i op = .ok [⟨op, ⟨#[]⟩, 0, ⟨#[]⟩, 0, x.name, ⟨#[]⟩, (tkAt T ((i + 1 : Nat) : Int)).line, (tkAt T ((i + 1 : Nat) : Int)).col⟩] ((i + 2 : Nat) : Int) := by
      intro op
      unfold namedP
      rw [show (i : Int) + 1 = ((i + 1 : Nat) : Int) from rfl, if_pos n1, n2]; rfl
    rw [both_sign]
    unfold signP atomP
    rw [if_neg (by rw [e0]; simp), if_neg (by rw [h1]; simp), h2]
    refine ⟨[⟨x.op, ⟨#[]⟩, 0, ⟨#[]⟩, 0, x.name, ⟨#[]⟩, (tkAt T ((i + 1 : Nat) : Int)).line, (tkAt T ((i + 1 : Nat) : Int)).col⟩], ?_, ?_⟩
    · rcases hop with h | h | h <;> rw [h] <;> simp +decide only [if_true, if_false, eN] <;> rfl
    · show [It.bare _] = [canI x]
      rw [eC]; rfl
theorem read_did {T : List Tk} {x : It} (hop : x.op = 12) : SPd T (atomTk x) [x] 1 := fun n i hA => by
  cases n with
  | zero => exact ⟨fun hn => absurd hn (by omega), fun _ => ⟨_, _, rfl⟩⟩
  | succ n =>
    refine ⟨fun _ => ?_, fun hn => absurd hn (by omega)⟩
    have eU : atomTk x = [opTk 12, tk0 1 x.user 0, tk0 1 x.name 0] := by unfold atomTk; rw [if_neg (by omega), if_pos hop]
    have eC : canI x = ⟨12, ⟨#[]⟩, 0, ⟨#[]⟩, 0, x.name, x.user, 0, 0⟩ := by unfold canI; rw [if_neg (by omega), if_pos hop]
    rw [eU] at hA ⊢
    obtain ⟨⟨h1, h2, _⟩, hA⟩ := hA.hd
    obtain ⟨hN, hA⟩ := hA.hd
    obtain ⟨hM, _⟩ := hA.hd
    obtain ⟨n1, n2⟩ := name_tk hN
    obtain ⟨m1, m2⟩ := name_tk hM
    have h1' : (tkAt T (i : Int)).kind = 2 := h1
    have h2' : (tkAt T (i : Int)).text = signB 12 := h2
    have e0 : isTk T (i : Int) 4 sOpen = false := by unfold isTk; rw [h1']; rfl
    have eN : didP T i = .ok [⟨12, ⟨#[]⟩, 0, ⟨#[]⟩, 0, x.name, x.user, (tkAt T ((i + 1 : Nat) : Int)).line, (tkAt T ((i + 1 : Nat) : Int)).col⟩] ((i + 3 : Nat) : Int) := by
      unfold didP
      rw [show (i : Int) + 1 = ((i + 1 : Nat) : Int) from rfl, show (i : Int) + 2 = ((i + 1 + 1 : Nat) : Int) from rfl, if_pos n1, if_pos m1, n2, m2]; rfl
    rw [both_sign]
    unfold signP atomP
    rw [if_neg (by rw [e0]; simp), if_neg (by rw [h1']; simp), h2']
    refine ⟨[⟨12, ⟨#[]⟩, 0, ⟨#[]⟩, 0, x.name, x.user, (tkAt T ((i + 1 : Nat) : Int)).line, (tkAt T ((i + 1 : Nat) : Int)).col⟩], ?_, ?_⟩
    · simp +decide only [if_true, if_false, eN]; rfl
    · show [It.bare _] = [canI x]
      rw [eC]; rfl
theorem read_atom {T : List Tk} {x : It} (hop : arN x.op = 0) : SPd T (atomTk x) [x] 1 := by
  have h : 1 ≤ x.op ∧ x.op ≤ 14 := by
    unfold arN at hop
    split at hop
    · assumption
    split at hop
    · omega
    split at hop
    · omega
    · omega
  rcases (show (3 ≤ x.op ∧ x.op ≤ 8) ∨ (x.op = 1 ∨ x.op = 2 ∨ x.op = 13 ∨ x.op = 14) ∨ (x.op = 9 ∨ x.op = 10 ∨ x.op = 11) ∨ x.op = 12 by omega) with h | h | h | h
  · exact read_cmp h
  · exact read_kw h
  · exact read_of h
  · exact read_did h

/-! a sign ahead -/
theorem sign_ahead {T : List Tk} {sg form : Int → PR} {i : Nat} {op : Int} (hop : op = 15 ∨ (19 ≤ op ∧ op ≤ 24)) (h : Twin2 (opTk op) (tkAt T (i : Int))) : signP T true sg form i = (sg ((i + 1 : Nat) : Int)).also fun o a => .ok (o ++ [item op (tkAt T (i : Int))]) a := by
  obtain ⟨h1, h2, _⟩ := h
  unfold opTk tk0 at h1 h2
  rw [if_neg (by omega)] at h1
  have e0 : isTk T (i : Int) 4 sOpen = false := by unfold isTk; rw [h1]; rfl
  unfold signP
  rw [if_neg (by rw [e0]; simp), if_neg (by rw [h1]; simp), h2]
  rcases (show op = 15 ∨ op = 19 ∨ op = 20 ∨ op = 21 ∨ op = 22 ∨ op = 23 ∨ op = 24 by omega) with rfl | rfl | rfl | rfl | rfl | rfl | rfl <;> simp +decide only [if_true, if_false] <;> rfl
theorem sign_until {T : List Tk} {sg form : Int → PR} {i : Nat} {op : Int} (hop : op = 25 ∨ op = 26) (h : Twin2 (opTk op) (tkAt T (i : Int))) : signP T true sg form i = untilP T form op i := by
  obtain ⟨h1, h2, _⟩ := h
  unfold opTk tk0 at h1 h2
  rw [if_neg (by omega)] at h1
  have e0 : isTk T (i : Int) 4 sOpen = false := by unfold isTk; rw [h1]; rfl
  unfold signP
  rw [if_neg (by rw [e0]; simp), if_neg (by rw [h1]; simp), h2]
  rcases hop with rfl | rfl <;> simp +decide only [if_true, if_false]

theorem bar_item {op : Int} {x : It} {t : Tk} (hx : x.op = op) (h : 13 ≤ op) : barL [item op t] = [canI x] := by
  rw [canI_high (by omega), hx]; rfl
theorem read_one {T : List Tk} {U : List Tk} {l : List It} {m : Nat} {x : It} (hop : x.op = 15 ∨ (19 ≤ x.op ∧ x.op ≤ 24)) (h : SPd T U l m) : SPd T ([opTk x.op] ++ U) (l ++ [x]) (m + 1) := fun n i hA => by
  cases n with
  | zero => exact ⟨fun hn => absurd hn (by omega), fun _ => ⟨_, _, rfl⟩⟩
  | succ n =>
    obtain ⟨h0, hU⟩ := AtT.hd (U := U) hA
    rw [both_sign, sign_ahead hop h0]
    refine ⟨fun hn => ?_, fun hn => ((h n (i + 1) hU).2 (by omega)).also _⟩
    obtain ⟨o, e, hl⟩ := (h n (i + 1) hU).1 (by omega)
    rw [e]
    refine ⟨_, by show PR.ok _ _ = PR.ok _ _; congr 1; simp only [List.length_append, List.length_cons, List.length_nil]; omega, ?_⟩
    rw [barL_app, hl, bar_item rfl (by omega), List.map_append]; rfl

/-! two -/
theorem AtT.mid {T : List Tk} {i : Nat} {x : Tk} {U V : List Tk} (h : AtT T i (U ++ ([x] ++ V))) : AtT T i U ∧ Twin2 x (tkAt T ((i + U.length : Nat) : Int)) ∧ AtT T (i + U.length + 1) V := by
  obtain ⟨h1, h2⟩ := h.app
  obtain ⟨h3, h4⟩ := AtT.hd (U := V) h2
  exact ⟨h1, h3, h4⟩
theorem row_next {T : List Tk} {one : Int → PR} {wd : ByteArray} {op : Int} {k j : Nat} {o : List It} (h : isTk T (j : Int) 2 wd = true) : rowP T one wd op (k + 1) (j : Int) o = (one ((j + 1 : Nat) : Int)).also fun o2 a => rowP T one wd op k a (o ++ o2 ++ [item op (tkAt T (j : Int))]) := by
  rw [rowP, if_pos h]; rfl
/-- one more in a row -/
theorem AR.more {T : List Tk} {one : Int → PR} {wd : ByteArray} {op : Int} {r : PR} {i j : Nat} {l l2 : List It} {x : It} (_hij : i ≤ j) (h : AR T one wd op r i j l) (ht : isTk T (j : Int) 2 wd = true) (hx : x.op = op) (hop : 13 ≤ op) {m : Nat} (hm : j + 1 ≤ m) (h2 : GR (one ((j + 1 : Nat) : Int)) m l2) : AR T one wd op r i m (l ++ l2 ++ [x]) := by
  obtain ⟨o, k, e, hk, hl⟩ := h
  have hin := isTk_in ht (by decide)
  obtain ⟨k, rfl⟩ : ∃ q, k = q + 1 := ⟨k - 1, by omega⟩
  obtain ⟨o2, e2, hl2⟩ := h2
  refine ⟨o ++ o2 ++ [item op (tkAt T (j : Int))], k, ?_, by omega, ?_⟩
  · rw [e, row_next ht, e2]; rfl
  · rw [barL_app, barL_app, hl, hl2, bar_item hx hop, List.map_append, List.map_append]; rfl
theorem AR.bad {T : List Tk} {one : Int → PR} {wd : ByteArray} {op : Int} {r : PR} {i j : Nat} {l : List It} (_hij : i ≤ j) (h : AR T one wd op r i j l) (ht : isTk T (j : Int) 2 wd = true) (h2 : BR (one ((j + 1 : Nat) : Int))) : BR r := by
  obtain ⟨o, k, e, hk, hl⟩ := h
  have hin := isTk_in ht (by decide)
  obtain ⟨k, rfl⟩ : ∃ q, k = q + 1 := ⟨k - 1, by omega⟩
  rw [e, row_next ht]
  exact h2.also _
theorem op_is {T : List Tk} {i : Int} {op : Int} (hop : op = 16 ∨ op = 17 ∨ op = 18) (h : Twin2 (opTk op) (tkAt T i)) : isTk T i 2 wAnd = decide (op = 16) ∧ isTk T i 2 wOr = decide (op = 17) ∧ isTk T i 2 wImplies = decide (op = 18) := by
  rw [isTk_tw h, isTk_tw h, isTk_tw h]
  rcases hop with rfl | rfl | rfl <;> decide +kernel
theorem len_mid (U V : List Tk) (x : Tk) (i : Nat) : i + (U ++ ([x] ++ V)).length = i + U.length + 1 + V.length := by simp only [List.length_append, List.length_cons, List.length_nil]; omega

theorem read_and {T : List Tk} {U V : List Tk} {l l2 : List It} {m m2 : Nat} {x : It} (hx : x.op = 16) (h : APd T U l m) (h2 : SPd T V l2 m2) : APd T (U ++ ([opTk 16] ++ V)) (l ++ l2 ++ [x]) (max m m2) := fun n i hA => by
  obtain ⟨hU, ht, hV⟩ := hA.mid
  have e := (op_is (.inl rfl) ht).1
  rw [len_mid]
  refine ⟨fun hn => ?_, fun hn => ?_⟩
  · exact AR.more (by omega) ((h n i hU).1 (by omega)) e hx (by decide) (by omega) ((h2 n _ hV).1 (by omega))
  · by_cases hm : n < m
    · exact (h n i hU).2 hm
    · exact AR.bad (by omega) ((h n i hU).1 (by omega)) e ((h2 n _ hV).2 (by omega))
theorem read_or {T : List Tk} {U V : List Tk} {l l2 : List It} {m m2 : Nat} {x : It} (hx : x.op = 17) (h : OPd T U l m) (h2 : APd T V l2 m2) : OPd T (U ++ ([opTk 17] ++ V)) (l ++ l2 ++ [x]) (max m m2) := fun n i hA hs => by
  obtain ⟨hU, ht, hV⟩ := hA.mid
  have e := op_is (.inr (.inl rfl)) ht
  rw [len_mid] at hs ⊢
  refine ⟨fun hn => ?_, fun hn => ?_⟩
  · exact AR.more (by omega) ((h n i hU e.1).1 (by omega)) e.2.1 hx (by decide) (by omega) (((h2 n _ hV).1 (by omega)).stop hs)
  · by_cases hm : n < m
    · exact (h n i hU e.1).2 hm
    · exact AR.bad (by omega) ((h n i hU e.1).1 (by omega)) e.2.1 ((h2 n _ hV).2 (by omega))
theorem read_imp {T : List Tk} {U V : List Tk} {l l2 : List It} {m m2 : Nat} {x : It} (hx : x.op = 18) (h : OPd T U l m) (h2 : FPd T V l2 m2) : FPd T (U ++ ([opTk 18] ++ V)) (l ++ l2 ++ [x]) (max m (m2 + 1)) := fun n i hA s1 s2 s3 => by
  cases n with
  | zero => exact ⟨fun hn => absurd hn (by omega), fun _ => ⟨_, _, rfl⟩⟩
  | succ n =>
    obtain ⟨hU, ht, hV⟩ := hA.mid
    have e := op_is (.inr (.inr rfl)) ht
    rw [len_mid] at s1 s2 s3 ⊢
    rw [both_form]
    unfold formP
    by_cases hm : n + 1 < m
    · exact ⟨fun hn => absurd hn (by omega), fun _ => ((h (n + 1) i hU e.1).2 hm).also _⟩
    obtain ⟨o, eo, hl⟩ := ((h (n + 1) i hU e.1).1 (by omega)).stop e.2.1
    rw [eo]
    show (_ → GR (if isTk T ((i + U.length : Nat) : Int) 2 wImplies then _ else _) _ _) ∧ (_ → BR (if isTk T ((i + U.length : Nat) : Int) 2 wImplies then _ else _))
    have e3 : isTk T ((i + U.length : Nat) : Int) 2 wImplies = true := e.2.2
    rw [if_pos e3]
    have H := h2 n _ hV s1 s2 s3
    refine ⟨fun hn => ?_, fun hn => BR.also (H.2 (by omega)) _⟩
    obtain ⟨o2, e2, hl2⟩ := H.1 (by omega)
    rw [show (((i + U.length : Nat) : Int) + 1) = ((i + U.length + 1 : Nat) : Int) from rfl, e2]
    refine ⟨_, rfl, ?_⟩
    rw [barL_app, barL_app, hl, hl2, bar_item hx (by decide), List.map_append, List.map_append]; rfl
theorem read_until {T : List Tk} {U V : List Tk} {l l2 : List It} {m m2 : Nat} {x : It} (hx : x.op = 25 ∨ x.op = 26) (h : FPd T U l m) (h2 : FPd T V l2 m2) : SPd T ([opTk x.op] ++ ([begTk] ++ (U ++ ([uTk] ++ (V ++ [endTk4]))))) (l ++ l2 ++ [x]) (max m m2 + 1) := fun n i hA => by
  cases n with
  | zero => exact ⟨fun hn => absurd hn (by omega), fun _ => ⟨_, _, rfl⟩⟩
  | succ n =>
    obtain ⟨h0, hA⟩ := AtT.hd (U := [begTk] ++ (U ++ ([uTk] ++ (V ++ [endTk4])))) hA
    obtain ⟨h1, hA⟩ := AtT.hd (U := U ++ ([uTk] ++ (V ++ [endTk4]))) hA
    obtain ⟨hU, hu, hA⟩ := hA.mid
    obtain ⟨hV, he⟩ := hA.app
    obtain ⟨he, _⟩ := he.hd
    have e1 : isTk T ((i + 1 : Nat) : Int) 4 sBegin = true := by rw [isTk_tw h1]; decide
    have eu : isTk T ((i + 1 + 1 + U.length : Nat) : Int) 2 wU = true := by rw [isTk_tw hu]; decide
    have ee : isTk T ((i + 1 + 1 + U.length + 1 + V.length : Nat) : Int) 4 sEnd = true := by rw [isTk_tw he]; decide
    have H := h n _ hU (by rw [isTk_tw hu]; decide) (by rw [isTk_tw hu]; decide) (by rw [isTk_tw hu]; decide)
    have H2 := h2 n _ hV (by rw [isTk_tw he]; decide) (by rw [isTk_tw he]; decide) (by rw [isTk_tw he]; decide)
    rw [both_sign, sign_until hx h0]
    unfold untilP needP
    rw [show (i : Int) + 1 = ((i + 1 : Nat) : Int) from rfl, if_pos e1]
    by_cases hm : n < m
    · exact ⟨fun hn => absurd hn (by omega), fun _ => BR.also (H.2 hm) _⟩
    obtain ⟨o, eo, hl⟩ := H.1 (by omega)
    dsimp only
    rw [show (((i + 1 : Nat) : Int) + 1) = ((i + 1 + 1 : Nat) : Int) from rfl, eo]
    show (_ → GR (if isTk T ((i + 1 + 1 + U.length : Nat) : Int) 2 wU then _ else _) _ _) ∧ (_ → BR (if isTk T ((i + 1 + 1 + U.length : Nat) : Int) 2 wU then _ else _))
    rw [if_pos eu]
    by_cases hm2 : n < m2
    · exact ⟨fun hn => absurd hn (by omega), fun _ => BR.also (H2.2 hm2) _⟩
    refine ⟨fun _ => ?_, fun hn => absurd hn (by omega)⟩
    obtain ⟨o2, e2, hl2⟩ := H2.1 (by omega)
    rw [show (((i + 1 + 1 + U.length : Nat) : Int) + 1) = ((i + 1 + 1 + U.length + 1 : Nat) : Int) from rfl, e2]
    show GR (if isTk T ((i + 1 + 1 + U.length + 1 + V.length : Nat) : Int) 4 sEnd then _ else _) _ _
    rw [if_pos ee]
    refine ⟨_, by congr 1; simp only [List.length_append, List.length_cons, List.length_nil]; omega, ?_⟩
    rw [barL_app, barL_app, hl, hl2, bar_item rfl (by omega), List.map_append, List.map_append]; rfl

/-! a formula -/
structure RD (T : List Tk) (f : Fm) : Prop where
  s : SPd T (inTk (decide (tightN f.op < 4)) (tkF f)) f.flat (lv 4 (tightN f.op) (needF f))
  a : APd T (inTk (decide (tightN f.op < 3)) (tkF f)) f.flat (lv 3 (tightN f.op) (needF f))
  o : OPd T (inTk (decide (tightN f.op < 2)) (tkF f)) f.flat (lv 2 (tightN f.op) (needF f))
  f : FPd T (tkF f) f.flat (needF f)
theorem RD.of4 {T : List Tk} {f : Fm} (h4 : tightN f.op = 4) (h : SPd T (tkF f) f.flat (needF f)) : RD T f := by
  refine ⟨?_, ?_, ?_, h.and.or.form (needF_pos f)⟩
  · rw [h4]; exact h
  · rw [h4]; exact h.and
  · rw [h4]; exact h.and.or
theorem RD.of3 {T : List Tk} {f : Fm} (h4 : tightN f.op = 3) (h : APd T (tkF f) f.flat (needF f)) : RD T f := by
  refine ⟨?_, ?_, ?_, h.or.form (needF_pos f)⟩
  · rw [h4]; exact (h.or.form (needF_pos f)).brk
  · rw [h4]; exact h
  · rw [h4]; exact h.or
theorem RD.of2 {T : List Tk} {f : Fm} (h4 : tightN f.op = 2) (h : OPd T (tkF f) f.flat (needF f)) : RD T f := by
  refine ⟨?_, ?_, ?_, h.form (needF_pos f)⟩
  · rw [h4]; exact (h.form (needF_pos f)).brk
  · rw [h4]; exact (h.form (needF_pos f)).brk.and
  · rw [h4]; exact h
theorem RD.of1 {T : List Tk} {f : Fm} (h4 : tightN f.op = 1) (h : FPd T (tkF f) f.flat (needF f)) : RD T f := by
  refine ⟨?_, ?_, ?_, h⟩
  · rw [h4]; exact h.brk
  · rw [h4]; exact h.brk.and
  · rw [h4]; exact h.brk.and.or
theorem inTk_1 (op : Int) (U : List Tk) : inTk (decide (tightN op < 1)) U = U := by
  have := tight_le op
  rw [decide_eq_false (by omega)]; rfl
theorem read_all (T : List Tk) : ∀ f : Fm, RD T f
  | .leaf x h => RD.of4 (f := .leaf x h) (by
      show tightN x.op = 4
      have : x.op ≠ 16 ∧ x.op ≠ 17 ∧ x.op ≠ 18 := by
        unfold arN at h
        split at h
        · omega
        split at h
        · omega
        split at h
        · omega
        · omega
      unfold tightN; rw [if_neg (by omega), if_neg (by omega), if_neg (by omega)]) (read_atom h)
  | .one x h f => by
    have hop : x.op = 15 ∨ (19 ≤ x.op ∧ x.op ≤ 24) := by
      unfold arN at h
      split at h
      · omega
      split at h
      · omega
      split at h
      · omega
      · omega
    exact RD.of4 (f := .one x h f) (by show tightN x.op = 4; unfold tightN; rw [if_neg (by omega), if_neg (by omega), if_neg (by omega)]) (read_one hop (read_all T f).s)
  | .two x h f g => by
    have hop : x.op = 16 ∨ x.op = 17 ∨ x.op = 18 ∨ x.op = 25 ∨ x.op = 26 := by
      unfold arN at h
      split at h
      · omega
      split at h
      · omega
      split at h
      · omega
      · omega
    have F := read_all T f
    have G := read_all T g
    rcases hop with hx | hx | hx | hx | hx
    · refine RD.of3 (f := .two x h f g) (by show tightN x.op = 3; rw [hx]; rfl) ?_
      have e : needF (.two x h f g) = max (lv 3 (tightN f.op) (needF f)) (lv 4 (tightN g.op) (needF g)) := by rw [needF, if_pos hx]
      rw [e]
      have e2 : tkF (.two x h f g) = inTk (decide (tightN f.op < 3)) (tkF f) ++ ([opTk 16] ++ inTk (decide (tightN g.op < 4)) (tkF g)) := by rw [tkF, twoTk, if_pos hx]
      rw [e2]
      exact read_and hx F.a G.s
    · refine RD.of2 (f := .two x h f g) (by show tightN x.op = 2; rw [hx]; rfl) ?_
      have e : needF (.two x h f g) = max (lv 2 (tightN f.op) (needF f)) (lv 3 (tightN g.op) (needF g)) := by rw [needF, if_neg (by omega), if_pos hx]
      rw [e]
      have e2 : tkF (.two x h f g) = inTk (decide (tightN f.op < 2)) (tkF f) ++ ([opTk 17] ++ inTk (decide (tightN g.op < 3)) (tkF g)) := by rw [tkF, twoTk, if_neg (by omega), if_pos hx]
      rw [e2]
      exact read_or hx F.o G.a
    · refine RD.of1 (f := .two x h f g) (by show tightN x.op = 1; rw [hx]; rfl) ?_
      have e : needF (.two x h f g) = max (lv 2 (tightN f.op) (needF f)) (needF g + 1) := by rw [needF, if_neg (by omega), if_neg (by omega), if_pos hx]
      rw [e]
      have e2 : tkF (.two x h f g) = inTk (decide (tightN f.op < 2)) (tkF f) ++ ([opTk 18] ++ tkF g) := by rw [tkF, twoTk, if_neg (by omega), if_neg (by omega), if_pos hx, inTk_1]
      rw [e2]
      exact read_imp hx F.o G.f
    all_goals
      refine RD.of4 (f := .two x h f g) (by show tightN x.op = 4; rw [hx]; rfl) ?_
      have e : needF (.two x h f g) = max (needF f) (needF g) + 1 := by rw [needF, if_neg (by omega), if_neg (by omega), if_neg (by omega)]
      rw [e]
      have e2 : tkF (.two x h f g) = [opTk x.op] ++ ([begTk] ++ (tkF f ++ ([uTk] ++ (tkF g ++ [endTk4])))) := by rw [tkF, twoTk, if_neg (by omega), if_neg (by omega), if_neg (by omega)]
      rw [e2]
      exact read_until (by omega) F.f G.f

end Go.Proofs.YthhjepgcbfmfeaaGreatDoor
