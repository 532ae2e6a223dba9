/- Names and printed numbers: contracts of show.Name, warderref06.Name, num.Print and warderref03.Print. -/
import Derived.Test.YtgmijfmbbaipfaaDoorTokKnown
import Derived.Test.YtgmijfmbbaipfaaDoorRef02d
import Derived.Test.YtgmijfmbbaipfaaDoorText
import Derived.Lib.LaidTab
import Derived.Lib.ItoaNum
import Derived.WalkSmall
import Derived.Test.YtgmijfmbbaipfaaDoorShelf
import Derived.Lib.AppendIntMem
import Derived.Laws.IdiomStrings
import Derived.Test.YtgmijfmbbaipfaaDoorBlk
namespace Go.Proofs.YtgmijfmbbaipfaaDoor
open Go.RowKit

def nameByte (first : Bool) (b : UInt8) : Bool := (decide (97 ≤ b.toNat) && decide (b.toNat ≤ 122)) || (!first && ((decide (48 ≤ b.toNat) && decide (b.toNat ≤ 57)) || decide (b.toNat = 95)))
def nameL : List UInt8 → Bool
  | [] => false
  | b :: r => nameByte true b && r.all (nameByte false)
def nameOK (s : ByteArray) : Bool := nameL s.data.toList && decide (s.size ≤ 16) && !knownB s

theorem decDigits_len : ∀ (k n : Nat), 0 < k → n < 10 ^ k → (Lib.decDigits n).length ≤ k
  | 0, _, h, _ => by omega
  | k + 1, n, _, h => by
    rw [Lib.decDigits]
    split
    · simp
    · rename_i hn
      have : n / 10 < 10 ^ k := by rw [Nat.pow_succ] at h; omega
      have hk : 0 < k := by
        rcases Nat.eq_zero_or_pos k with h0 | h0
        · subst h0; simp at this; omega
        · exact h0
      have := decDigits_len k (n / 10) hk this
      simp; omega

theorem itoa_len (n : Int) (h : -9223372036854775808 ≤ n ∧ n ≤ 9223372036854775807) : (Lib.itoa n).length ≤ 20 := by
  unfold Lib.itoa
  split
  · have := decDigits_len 19 n.natAbs (by decide) (by omega)
    simp; omega
  · have := decDigits_len 19 n.toNat (by decide) (by omega)
    omega

/-- the table of the library that is read, and the cell of MaxLen -/
structure Tabs (w : World) : Prop where
  mx : MaxCell w
  pow : Lib.TabIs Tryd.prog w "internal/strconv.uint64pow10" .u64 Lib.pow10Tab
def TabLow (B : Nat) : Prop := 1 < B ∧ 0 < B
theorem TabLow.mono {B C : Nat} (h : TabLow B) (hc : B ≤ C) : TabLow C := ⟨Nat.lt_of_lt_of_le h.1 hc, Nat.lt_of_lt_of_le h.2 hc⟩
theorem Tabs.below {w w' : World} {B : Nat} (h : Tabs w) (hb : Below B w w') (hB : TabLow B) : Tabs w' :=
  ⟨h.mx.below hb hB.1, var?_below hb (show Tryd.prog.globalNamed "internal/strconv.uint64pow10" = some 0 by kernel_rfl) hB.2 h.pow⟩
theorem var_lt {w : World} {n : String} {g : Nat} {cs : Array Value} (hg : Tryd.prog.globalNamed n = some g) (h : w.var? Tryd.prog n = some cs) : g < w.heap.size := by
  unfold World.var? at h
  rw [hg] at h
  rcases Nat.lt_or_ge g w.heap.size with h' | h'
  · exact h'
  · rw [Option.bind_some, Array.getElem?_eq_none h'] at h; simp at h
theorem Tabs.low {w : World} (h : Tabs w) : TabLow w.heap.size :=
  ⟨by obtain ⟨m, hm⟩ := h.mx; exact World.block_lt_of_cell? w _ hm, var_lt (show Tryd.prog.globalNamed "internal/strconv.uint64pow10" = some 0 by kernel_rfl) h.pow⟩
theorem Tabs.keep {w w' : World} (h : Tabs w) (hb : Below w.heap.size w w') : Tabs w' := h.below hb h.low
theorem Tabs.alloc {w : World} (h : Tabs w) (o : Obj) : Tabs (w.alloc o) := h.keep ((Below.refl _ w).alloc (Nat.le_refl _) o)

set_option maxHeartbeats 1000000 in
theorem smallB_any (c : Int) (w : World) : Calls Tryd.prog 21 #[.int .i32 c] w fun e w' => e = .returned (.bool (smallB c)) ∧ w = w' := by
  have H : Hid (smallB c = decide (97 ≤ c ∧ c ≤ 122)) := rfl
  rcases (show c < 97 ∨ (97 ≤ c ∧ c ≤ 122) ∨ 122 < c by omega) with h | ⟨h, h'⟩ | h
  all_goals
    go_enter Tryd.func21, Tryd.ntmps21
    go_wp2
    go_ret
    exact ⟨ret_bool (by rw [H.out]; simp; try omega), rfl⟩


set_option maxHeartbeats 1000000 in
theorem digitB_any (c : Int) (w : World) : Calls Tryd.prog 22 #[.int .i32 c] w fun e w' => e = .returned (.bool (digitB c)) ∧ w = w' := by
  have H : Hid (digitB c = decide (48 ≤ c ∧ c ≤ 57)) := rfl
  rcases (show c < 48 ∨ (48 ≤ c ∧ c ≤ 57) ∨ 57 < c by omega) with h | ⟨h, h'⟩ | h
  all_goals
    go_enter Tryd.func22, Tryd.ntmps22
    go_wp2
    go_ret
    exact ⟨ret_bool (by rw [H.out]; simp; try omega), rfl⟩


theorem nameL_iff (l : List UInt8) : nameL l = true ↔ 0 < l.length ∧ ∀ (j : Nat) (b : UInt8), l[j]? = some b → nameByte (decide (j = 0)) b = true := by
  cases l with
  | nil => simp [nameL]
  | cons b r =>
    rw [nameL, Bool.and_eq_true, List.all_eq_true]
    constructor
    · rintro ⟨h1, h2⟩
      refine ⟨by simp, fun j c hc => ?_⟩
      cases j with
      | zero => simp only [List.getElem?_cons_zero, Option.some.injEq] at hc; subst hc; simpa using h1
      | succ j =>
        simp only [List.getElem?_cons_succ] at hc
        simpa using h2 c (List.mem_of_getElem? hc)
    · rintro ⟨_, h2⟩
      refine ⟨by simpa using h2 0 b rfl, fun c hc => ?_⟩
      obtain ⟨j, hj⟩ := List.getElem?_of_mem hc
      simpa using h2 (j + 1) c (by simpa using hj)
theorem nameOK_no {s : ByteArray} {j : Nat} {b : UInt8} (h : s.data.toList[j]? = some b) (hb : nameByte (decide (j = 0)) b = false) : nameOK s = false := by
  unfold nameOK
  have : nameL s.data.toList = false := by
    refine Bool.eq_false_iff.2 fun hn => ?_
    have := ((nameL_iff _).1 hn).2 j b h
    rw [hb] at this; cases this
  rw [this]; rfl
/-- the bytes ahead of a place are a name's -/
def NameTo (s : ByteArray) (p : Nat) : Prop := ∀ (j : Nat) (b : UInt8), j < p → s.data.toList[j]? = some b → nameByte (decide (j = 0)) b = true
theorem NameTo.zero (s : ByteArray) : NameTo s 0 := fun j b h => by omega
theorem NameTo.next {s : ByteArray} {p : Nat} (h : NameTo s p) (hp : p < s.size) (hb : nameByte (decide (p = 0)) (s[p]'hp) = true) : NameTo s (p + 1) := fun j b hj he => by
  by_cases hlt : j < p
  · exact h j b hlt he
  · obtain rfl : j = p := by omega
    have e : s.data.toList[j]? = some (s[j]'hp) := Lib.data_getElem? s j hp
    rw [e] at he; cases he; exact hb
theorem nameOK_end {s : ByteArray} {p : Nat} (h : NameTo s p) (hp : s.size ≤ p) : nameOK s = (decide (0 < s.size) && decide (s.size ≤ 16) && !knownB s) := by
  unfold nameOK
  congr 2
  rw [Bool.eq_iff_iff, nameL_iff, decide_eq_true_iff]
  constructor
  · rintro ⟨h1, _⟩; simpa using h1
  · intro h1
    refine ⟨by simpa using h1, fun j b hj => h j b ?_ hj⟩
    have := (List.getElem?_eq_some_iff.1 hj).1
    simp at this; omega
theorem raw_small (s : ByteArray) (p : Nat) (hp : p < s.size) (h1 : (Utf8.decode s p).1 < 128) : (Utf8.decode s p).2 = 1 ∧ (s[p]'hp).toNat = (Utf8.decode s p).1 := by
  have hg : s.get! p = s[p]'hp := by
    simp [ByteArray.get!, ByteArray.getElem_eq_getElem_data, getElem!_pos, hp]
  have hb : (s.get! (p + 0)).toNat < 128 → Utf8.decode s p = ((s.get! (p + 0)).toNat, 1) := by
    intro h; unfold Utf8.decode; simp only; rw [if_pos h]
  by_cases hs : (s.get! (p + 0)).toNat < 128
  · rw [hb hs]; refine ⟨rfl, ?_⟩; rw [Nat.add_zero, hg]
  · exfalso
    rcases dec_cases s p with h | h | h | h
    · revert h1
      unfold Utf8.decode
      simp only
      rw [if_neg hs]
      repeat' split
      all_goals simp_all [Utf8.runeError]
      all_goals omega
    · omega
    · omega
    · omega
theorem raw_great (s : ByteArray) (p : Nat) (hp : p < s.size) (h1 : 128 ≤ (Utf8.decode s p).1) : 128 ≤ (s[p]'hp).toNat := by
  have hg : s.get! p = s[p]'hp := by
    simp [ByteArray.get!, ByteArray.getElem_eq_getElem_data, getElem!_pos, hp]
  have hb : (s.get! (p + 0)).toNat < 128 → Utf8.decode s p = ((s.get! (p + 0)).toNat, 1) := by
    intro h; unfold Utf8.decode; simp only; rw [if_pos h]
  refine Classical.byContradiction fun h => ?_
  have h2 : (s.get! (p + 0)).toNat < 128 := by rw [Nat.add_zero, hg]; omega
  rw [hb h2] at h1
  simp only at h1
  omega
/-- what a name's byte is, asked of a rune -/
def nameRune (first : Bool) (r : Int) : Bool := smallB r || (!first && (digitB r || decide (r = 95)))
theorem nameByte_rune (first : Bool) (b : UInt8) : nameByte first b = nameRune first (b.toNat : Int) := by
  have h1 : decide (97 ≤ (b.toNat : Int) ∧ (b.toNat : Int) ≤ 122) = (decide (97 ≤ b.toNat) && decide (b.toNat ≤ 122)) := by
    rw [Bool.eq_iff_iff]; simp; omega
  have h2 : decide (48 ≤ (b.toNat : Int) ∧ (b.toNat : Int) ≤ 57) = (decide (48 ≤ b.toNat) && decide (b.toNat ≤ 57)) := by
    rw [Bool.eq_iff_iff]; simp; omega
  have h3 : decide ((b.toNat : Int) = 95) = decide (b.toNat = 95) := by
    rw [Bool.eq_iff_iff]; simp; omega
  unfold nameByte nameRune
  show _ = (decide (97 ≤ (b.toNat : Int) ∧ (b.toNat : Int) ≤ 122) || (!first && (decide (48 ≤ (b.toNat : Int) ∧ (b.toNat : Int) ≤ 57) || decide ((b.toNat : Int) = 95))))
  rw [h1, h2, h3]
theorem nameRune_high (first : Bool) {r : Int} (h : 128 ≤ r) : nameRune first r = false := by
  have h1 : smallB r = false := by show decide _ = false; exact decide_eq_false (by omega)
  have h2 : digitB r = false := by show decide _ = false; exact decide_eq_false (by omega)
  unfold nameRune; rw [h1, h2, decide_eq_false (by omega)]; simp
theorem name_step {s : ByteArray} {p : Nat} (h : NameTo s p) (hp : p < s.size) (hr : nameRune (decide (p = 0)) ((Utf8.decode s p).1 : Int) = true) : (Utf8.decode s p).2 = 1 ∧ NameTo s (p + 1) := by
  have hlt : (Utf8.decode s p).1 < 128 := by
    refine Classical.byContradiction fun hn => ?_
    rw [nameRune_high _ (by omega)] at hr; cases hr
  obtain ⟨h1, h2⟩ := raw_small s p hp hlt
  exact ⟨h1, h.next hp (by rw [nameByte_rune, h2]; exact hr)⟩
theorem name_fail {s : ByteArray} {p : Nat} (hp : p < s.size) (hr : nameRune (decide (p = 0)) ((Utf8.decode s p).1 : Int) = false) : nameOK s = false := by
  refine nameOK_no (Lib.data_getElem? s p hp) ?_
  rw [nameByte_rune]
  by_cases hlt : (Utf8.decode s p).1 < 128
  · rw [(raw_small s p hp hlt).2]; exact hr
  · exact nameRune_high _ (by have := raw_great s p hp (by omega); omega)
theorem empty_list (s : ByteArray) : (s.toList == []) = decide (s.size = 0) := by
  rw [ByteArray.toList_eq, Bool.eq_iff_iff, beq_iff_eq, decide_eq_true_iff]
  constructor
  · intro h; have : s.data.toList.length = 0 := by rw [h]; rfl
    simpa using this
  · intro h; exact List.length_eq_zero_iff.1 (by simpa using h)

set_option maxRecDepth 100000 in
set_option maxHeartbeats 2000000 in
theorem name_yes (s : ByteArray) (w : World) (hm : MaxCell w) (hs : s.size ≤ 140737488351232) :
    Calls Tryd.prog 14 #[.string s] w fun e w' => e = .returned (.bool (nameOK s)) ∧ Below w.heap.size w w' := by
  have HM := Lib.hid hm
  have H0 : Hid ((w.iter s 0).heap[w.heap.size]? = some (.stringIter s 0) ∧ Below w.heap.size w (w.iter s 0)) := by
    refine ⟨World.iter_heap w s 0, ?_⟩
    exact (Below.refl _ w).alloc (Nat.le_refl _) _
  have HZ : Hid (1 < w.heap.size) := by obtain ⟨m, hm⟩ := hm; exact World.block_lt_of_cell? w _ hm
  clear hm
  go_enter Tryd.func14, Tryd.ntmps14
  go_wp2
  go_loopw [3, 4] (fun _ _ wr => ∃ (p : Nat), p ≤ s.size ∧ wr.heap[w.heap.size]? = some (.stringIter s p) ∧ Below w.heap.size w wr ∧ Hid (NameTo s p)) (fun _ _ wr => s.size - wr.iterPos w.heap.size)
  case atStart => exact ⟨0, Nat.zero_le _, H0.out.1, H0.out.2, Lib.hid (NameTo.zero s)⟩
  case round =>
    obtain ⟨p, hp, hit, hb, HE⟩ := hrel
    have hpo : (wr.iterPos w.heap.size) = p := by simp [World.iterPos, hit]
    have HPO := Lib.hid hpo; clear hpo
    by_cases hlt : p < s.size
    · have hnx := fun ty => Lib.run_next_any_at (P := Tryd.prog) wr w.heap.size s p ty hit hlt
      have hit1 := Lib.iterAt_heap wr w.heap.size s p (p + (Utf8.decode s p).2) hit
      have hb1 := Lib.below_iterAt hb (k := w.heap.size) (by omega) s (p + (Utf8.decode s p).2)
      have hyes : Hid (nameRune (decide (p = 0)) ((Utf8.decode s p).1 : Int) = true → (Utf8.decode s p).2 = 1 ∧ NameTo s (p + 1)) := fun hr => name_step HE.out hlt hr
      have hno : Hid (nameRune (decide (p = 0)) ((Utf8.decode s p).1 : Int) = false → nameOK s = false) := fun hr => name_fail hlt hr
      have HN : Hid (p + (Utf8.decode s p).2 ≤ s.size ∧ 1 ≤ (Utf8.decode s p).2) := ⟨decN_le s p hlt, decN_pos s p⟩
      obtain ⟨r, hr⟩ : ∃ r : Int, ((Utf8.decode s p).1 : Int) = r := ⟨_, rfl⟩
      obtain ⟨n, hn⟩ : ∃ n : Nat, (Utf8.decode s p).2 = n := ⟨_, rfl⟩
      simp only [hr, hn] at hnx hit1 hb1 hyes hno HN
      have HX := Lib.hid (And.intro hit1 hb1)
      have hltz : (p : Int) < (s.size : Int) := by omega
      clear hit hb hit1 hb1 hr hn HE H0
      have hsmall := Lib.hid (smallB_any r)
      have hdigit := Lib.hid (digitB_any r)
      cases hsm : smallB r
      · rw [hsm] at hsmall
        cases p with
        | zero =>
          have HF : Hid (nameOK s = false) := hno.out (by unfold nameRune; rw [hsm]; rfl)
          clear hyes hno hdigit
          go_wp2_with fail
          refine (hsmall.out _).mono ?_
          rintro e w4 ⟨rfl, rfl⟩
          go_wp2
          go_ret
          exact ⟨ret_bool HF.out.symm, by have h2 := HX.out.2; rw [Nat.zero_add] at h2; exact h2⟩
        | succ q =>
          have hq0 : ((q : Int) + 1 == 0) = false := beq_eq_false_iff_ne.2 (by omega)
          have hdq : decide (q + 1 = 0) = false := decide_eq_false (by omega)
          cases hdg : digitB r
          · rw [hdg] at hdigit
            by_cases h95 : r = 95
            · subst h95
              have HY : Hid (n = 1 ∧ NameTo s (q + 1 + 1)) := hyes.out (by unfold nameRune; rw [hdq]; simp)
              clear hyes hno hdq
              go_wp2_with fail
              refine (hsmall.out _).mono ?_
              rintro e w4 ⟨rfl, rfl⟩
              go_wp2_with fail
              refine (hdigit.out _).mono ?_
              rintro e w4 ⟨rfl, rfl⟩
              go_wp2
              go_roundw
              case rel => obtain ⟨e1, e2⟩ := HY.out; subst e1; exact ⟨q + 1 + 1, HN.out.1, HX.out.1, HX.out.2, e2⟩
              case measure => exact iter_less HX.out.1 HPO.out (by have := HN.out.2; omega) HN.out.1
            · have hr95 : (r == 95) = false := beq_eq_false_iff_ne.2 h95
              have HF : Hid (nameOK s = false) := hno.out (by unfold nameRune; rw [hsm, hdg, decide_eq_false h95]; simp)
              clear hyes hno hdq h95
              go_wp2_with fail
              refine (hsmall.out _).mono ?_
              rintro e w4 ⟨rfl, rfl⟩
              go_wp2_with fail
              refine (hdigit.out _).mono ?_
              rintro e w4 ⟨rfl, rfl⟩
              go_wp2
              go_ret
              exact ⟨ret_bool HF.out.symm, HX.out.2⟩
          · rw [hdg] at hdigit
            have HY : Hid (n = 1 ∧ NameTo s (q + 1 + 1)) := hyes.out (by unfold nameRune; rw [hdq, hdg]; simp)
            clear hyes hno hdq
            go_wp2_with fail
            refine (hsmall.out _).mono ?_
            rintro e w4 ⟨rfl, rfl⟩
            go_wp2_with fail
            refine (hdigit.out _).mono ?_
            rintro e w4 ⟨rfl, rfl⟩
            go_wp2
            go_roundw
            case rel => obtain ⟨e1, e2⟩ := HY.out; subst e1; exact ⟨q + 1 + 1, HN.out.1, HX.out.1, HX.out.2, e2⟩
            case measure => exact iter_less HX.out.1 HPO.out (by have := HN.out.2; omega) HN.out.1
      · rw [hsm] at hsmall
        have HY : Hid (n = 1 ∧ NameTo s (p + 1)) := hyes.out (by unfold nameRune; rw [hsm]; rfl)
        clear hyes hno hdigit
        go_wp2_with fail
        refine (hsmall.out _).mono ?_
        rintro e w4 ⟨rfl, rfl⟩
        go_wp2
        go_roundw
        case rel => obtain ⟨e1, e2⟩ := HY.out; subst e1; exact ⟨p + 1, HN.out.1, HX.out.1, HX.out.2, e2⟩
        case measure => exact iter_less HX.out.1 HPO.out (by have := HN.out.2; omega) HN.out.1
    · have hnx := fun ty => Lib.run_next_end_at (P := Tryd.prog) wr w.heap.size s p ty hit hlt
      have hend := nameOK_end HE.out (by omega)
      have he := empty_list s
      have HM1 := Lib.hid (HM.out.below hb HZ.out)
      have HB := Lib.hid hb
      by_cases h0 : s.size = 0
      · rw [decide_eq_true h0] at he
        rw [decide_eq_false (by omega)] at hend
        have HEND := Lib.hid hend
        clear hb hit hend HE
        go_wp2
        go_ret
        exact ⟨ret_bool (by rw [HEND.out]; rfl), HB.out⟩
      · rw [decide_eq_false h0] at he
        rw [decide_eq_true (by omega)] at hend
        by_cases h16 : s.size ≤ 16
        · rw [decide_eq_true h16] at hend
          have h16z : (s.size : Int) ≤ 16 := by omega
          have HEND := Lib.hid hend
          have HK := Lib.hid (known_any s wr HM1.out (by omega))
          clear hb hit hend HE
          go_wp2_with fail
          refine HK.out.mono ?_
          rintro e w4 ⟨rfl, rfl⟩
          cases hk : knownB s
          · rw [hk] at HEND
            go_wp2
            go_ret
            exact ⟨ret_bool (by rw [HEND.out]; rfl), HB.out⟩
          · rw [hk] at HEND
            go_wp2
            go_ret
            exact ⟨ret_bool (by rw [HEND.out]; rfl), HB.out⟩
        · rw [decide_eq_false h16] at hend
          have h16z : ¬ (s.size : Int) ≤ 16 := by omega
          have HEND := Lib.hid hend
          clear hb hit hend HE
          go_wp2
          go_ret
          exact ⟨ret_bool (by rw [HEND.out]; rfl), HB.out⟩

section
open Go.Sort
theorem below_print (w : World) (k : Nat) (os : Array Obj) : Below w.heap.size w (grow (w.drewN k) os) := Lib.below_grow _ w (Nat.le_refl _) k os
set_option maxHeartbeats 1000000 in
theorem print_any {w : World} (ht : Tabs w) (n : Int) (h0 : -9223372036854775808 ≤ n) (h1 : n ≤ 9223372036854775807) :
    Calls Tryd.prog 15 #[.int .i64 n] w fun e w' => e = .returned (.string ⟨(Lib.itoa n).toArray⟩) ∧ Below w.heap.size w w' := by
  have HF := Lib.hid (Tryd.strconv_FormatInt_10 n h0 h1 w ht.pow)
  clear ht
  go_enter Tryd.func15, Tryd.ntmps15
  go_wp2_with fail
  refine HF.out.mono ?_
  rintro e w2 ⟨rfl, k, os, rfl⟩
  have HB := Lib.hid (below_print w k os)
  go_wp2
  go_ret
  exact ⟨rfl, HB.out⟩

end

section
open Go.Sort
/-- the digits of a number, none of 0 -/
def dgL (n : Nat) : List UInt8 := if n = 0 then [] else Lib.decDigits n
theorem dgL_step {m : Nat} (h : 0 < m) : dgL m = dgL (m / 10) ++ [UInt8.ofNat (48 + m % 10)] := by
  unfold dgL
  rw [if_neg (by omega), Lib.decDigits]
  split
  · rw [if_pos (by omega), show m % 10 = m by omega]; rfl
  · rw [if_neg (by omega)]
theorem ba_app (a b : List UInt8) : (⟨a.toArray⟩ : ByteArray) ++ ⟨b.toArray⟩ = ⟨(a ++ b).toArray⟩ := by
  apply ByteArray.ext; simp [ByteArray.data_append]
theorem ba_size (a : List UInt8) : (⟨a.toArray⟩ : ByteArray).size = a.length := by show a.toArray.size = a.length; simp
theorem dg_len {m : Nat} (h : m < 10 ^ 19) : (dgL m).length ≤ 19 := by
  unfold dgL
  split
  · simp
  · exact decDigits_len 19 m (by decide) h
theorem byte_conv (w : World) (d : Nat) (hd : d < 10) : (convert 65 9 (.slice (some ⟨w.heap.size, 0, none⟩) 1 1)).run Tryd.prog (w.alloc (.cells #[.int .u8 (48 + (d : Int))] 5)) = .ok (.string ⟨#[UInt8.ofNat (48 + d)]⟩) (w.alloc (.cells #[.int .u8 (48 + (d : Int))] 5)) := by
  have := run_convert_bytes_back (P := Tryd.prog) (w.alloc (.cells #[.int .u8 (48 + (d : Int))] 5)) 65 9 5 ⟨w.heap.size, 0, none⟩ 1 [UInt8.ofNat (48 + d)] Tryd.underlying65 Tryd.underlying5 Tryd.underlying9 (fun j hj => by
    have : j = 0 := by simpa using hj
    subst this
    show (w.alloc (.cells #[.int .u8 (48 + (d : Int))] 5)).cell? ⟨w.heap.size, 0, none⟩ = _
    rw [World.cell?_alloc_new]
    have e : (UInt8.ofNat (48 + d)).toNat = 48 + d := by rw [UInt8.toNat_ofNat']; omega
    rw [show [UInt8.ofNat (48 + d)][0].toNat = 48 + d from e]
    rfl)
  exact this

theorem ret_str {a b : ByteArray} (h : a = b) : Ending.returned (.string a) = .returned (.string b) := by rw [h]
theorem str_eq {a b : ByteArray} (h : a = b) : Value.string a = .string b := by rw [h]
set_option maxRecDepth 100000 in
set_option maxHeartbeats 2000000 in
theorem rprint_pos {w : World} (N : Nat) (h0 : 0 < N) (h1 : (N : Int) ≤ 9223372036854775807) :
    Calls Tryd.prog 20 #[.int .i64 N] w fun e w' => e = .returned (.string ⟨(dgL N).toArray⟩) ∧ Below w.heap.size w w' := by
  have hz0 : ((N : Int) == 0) = false := beq_eq_false_iff_ne.2 (by omega)
  have hz1 : decide ((N : Int) < 0) = false := decide_eq_false (by omega)
  go_enter Tryd.func20, Tryd.ntmps20
  go_wp2
  go_loopw [0, 3, 5] (fun n s _ wr => ∃ (m : Nat) (l : List UInt8), n = .int .i64 m ∧ s = .string ⟨l.toArray⟩ ∧ m ≤ N ∧ l.length ≤ 19 ∧ Hid (dgL N = dgL m ++ l) ∧ Below w.heap.size w wr) (fun n _ _ _ => (intOf n).toNat)
  case atStart => exact ⟨N, [], rfl, rfl, Nat.le_refl _, by simp, by unfold Hid; simp, Below.refl _ _⟩
  case round =>
    obtain ⟨m, l, rfl, rfl, hm, hl, HE, hb⟩ := hrel
    have HB := Lib.hid hb
    clear hb
    by_cases hm0 : m = 0
    · subst hm0
      have hE := HE.out
      rw [show dgL 0 = [] from rfl, List.nil_append] at hE
      have hls : (⟨l.toArray⟩ : ByteArray).size ≤ 19 := by rw [ba_size]; exact hl
      have HE3 := Lib.hid hE
      clear hE HE
      go_wp2
      go_ret
      exact ⟨ret_str ((ba_app [] l).trans (by rw [HE3.out]; rfl)), HB.out⟩
    · obtain ⟨d, hd⟩ : ∃ d, m % 10 = d := ⟨_, rfl⟩
      obtain ⟨q, hq⟩ : ∃ q, m / 10 = q := ⟨_, rfl⟩
      have HMD : Hid (m = 10 * q + d) := Lib.hid (by omega)
      have hd10 : d < 10 := by omega
      have hrem : Int.tmod (m : Int) 10 = (d : Int) := by rw [Int.tmod_eq_emod_of_nonneg (by omega)]; omega
      have hquo : Int.tdiv (m : Int) 10 = (q : Int) := by rw [Int.tdiv_eq_ediv_of_nonneg (by omega)]; omega
      have hrem2 : (m : Int) % 10 = (d : Int) := by omega
      have hquo2 : (m : Int) / 10 = (q : Int) := by omega
      have hne : ((m : Int) != 0) = true := bne_iff_ne.2 (by omega)
      have hdn : decide ((d : Int) < 0) = false := decide_eq_false (by omega)
      have HE2 : Hid (dgL N = dgL q ++ (UInt8.ofNat (48 + d) :: l)) := by unfold Hid; rw [HE.out, dgL_step (by omega), hd, hq]; simp
      have hl2 : (UInt8.ofNat (48 + d) :: l).length ≤ 19 := by
        have h3 := dg_len (m := N) (by omega)
        rw [HE2.out] at h3
        simp at h3 ⊢; omega
      have HL2 := Lib.hid hl2
      obtain ⟨bt, hbt⟩ : ∃ b, UInt8.ofNat (48 + d) = b := ⟨_, rfl⟩
      have hcv := byte_conv wr d hd10
      rw [hbt] at hcv HE2 HL2
      clear hbt
      have hls : (⟨l.toArray⟩ : ByteArray).size ≤ 19 := by rw [ba_size]; exact hl
      clear hd hq hl2 HE
      go_wp2
      go_roundw
      case rel => exact ⟨q, bt :: l, by go_num, str_eq (ba_app [bt] l), by have := HMD.out; omega, HL2.out, HE2, HB.out.alloc HB.out.size _⟩
      case measure => have := HMD.out; simp [intOf]; omega

theorem byte_conv0 (w : World) : (convert 65 9 (.slice (some ⟨w.heap.size, 0, none⟩) 1 1)).run Tryd.prog (w.alloc (.cells #[.int .u8 48] 5)) = .ok (.string ⟨#[UInt8.ofNat (48 + 0)]⟩) (w.alloc (.cells #[.int .u8 48] 5)) := byte_conv w 0 (by decide)
theorem byte_conv1 (w : World) (e d : Nat) (hd : d < 10) (he : d = e + 1) : (convert 65 9 (.slice (some ⟨w.heap.size, 0, none⟩) 1 1)).run Tryd.prog (w.alloc (.cells #[.int .u8 (48 + ((e : Int) + 1))] 5)) = .ok (.string ⟨#[UInt8.ofNat (48 + d)]⟩) (w.alloc (.cells #[.int .u8 (48 + ((e : Int) + 1))] 5)) := by
  have := byte_conv w d hd
  subst he
  exact this
set_option maxRecDepth 100000 in
set_option maxHeartbeats 2000000 in
theorem rprint_neg {w : World} (N : Nat) (h0 : 0 < N) (h1 : (N : Int) ≤ 9223372036854775808) :
    Calls Tryd.prog 20 #[.int .i64 (-(N : Int))] w fun e w' => e = .returned (.string ⟨(45 :: dgL N).toArray⟩) ∧ Below w.heap.size w w' := by
  have hz0 : (-(N : Int) == 0) = false := beq_eq_false_iff_ne.2 (by omega)
  have hz1 : decide (-(N : Int) < 0) = true := decide_eq_true (by omega)
  go_enter Tryd.func20, Tryd.ntmps20
  go_wp2
  go_loopw [0, 3, 5] (fun n s _ wr => ∃ (z : Int) (m : Nat) (l : List UInt8), n = .int .i64 z ∧ z = -(m : Int) ∧ s = .string ⟨l.toArray⟩ ∧ m ≤ N ∧ l.length ≤ 19 ∧ Hid (dgL N = dgL m ++ l) ∧ Below w.heap.size w wr) (fun n _ _ _ => (-(intOf n)).toNat)
  case atStart => exact ⟨_, N, [], rfl, rfl, rfl, Nat.le_refl _, by simp, by unfold Hid; simp, Below.refl _ _⟩
  case round =>
    obtain ⟨z, m, l, rfl, hzm, rfl, hm, hl, HE, hb⟩ := hrel
    have HB := Lib.hid hb
    clear hb
    by_cases hm0 : m = 0
    · subst hm0
      obtain rfl : z = 0 := by omega
      have hE := HE.out
      rw [show dgL 0 = [] from rfl, List.nil_append] at hE
      have hls : (⟨l.toArray⟩ : ByteArray).size ≤ 19 := by rw [ba_size]; exact hl
      have HE3 := Lib.hid hE
      clear hE HE hzm
      go_wp2
      go_ret
      exact ⟨ret_str ((ba_app [45] l).trans (by rw [HE3.out]; rfl)), HB.out⟩
    · obtain ⟨d, hd⟩ : ∃ d, m % 10 = d := ⟨_, rfl⟩
      obtain ⟨q, hq⟩ : ∃ q, m / 10 = q := ⟨_, rfl⟩
      have HMD : Hid (m = 10 * q + d) := Lib.hid (by omega)
      have hd10 : d < 10 := by omega
      have HZ : Hid (z = -(m : Int)) := Lib.hid hzm
      have hrem : Int.tmod z 10 = -(d : Int) := by rw [hzm, Int.neg_tmod, Int.tmod_eq_emod_of_nonneg (by omega)]; omega
      have hquo : Int.tdiv z 10 = -(q : Int) := by rw [hzm, Int.neg_tdiv, Int.tdiv_eq_ediv_of_nonneg (by omega)]; omega
      have hne : (z != 0) = true := bne_iff_ne.2 (by omega)
      have HE2 : Hid (dgL N = dgL q ++ (UInt8.ofNat (48 + d) :: l)) := by unfold Hid; rw [HE.out, dgL_step (by omega), hd, hq]; simp
      have hl2 : (UInt8.ofNat (48 + d) :: l).length ≤ 19 := by
        have h3 := dg_len (m := N) (by omega)
        rw [HE2.out] at h3
        simp at h3 ⊢; omega
      have HL2 := Lib.hid hl2
      have hls : (⟨l.toArray⟩ : ByteArray).size ≤ 19 := by rw [ba_size]; exact hl
      have hlo : -9223372036854775808 ≤ z := by omega
      have hhi : z < 0 := by omega
      have hql : (q : Int) ≤ 922337203685477580 := by omega
      clear hd hq hl2 HE hzm
      cases d with
      | zero =>
        obtain ⟨bt, hbt⟩ : ∃ b, UInt8.ofNat (48 + 0) = b := ⟨_, rfl⟩
        have hcv := byte_conv0 wr
        rw [hbt] at hcv HE2 HL2
        clear hbt
        rw [show -((0 : Nat) : Int) = 0 from rfl] at hrem
        go_wp2
        go_roundw
        case rel => exact ⟨_, q, bt :: l, rfl, rfl, str_eq (ba_app [bt] l), by have := HMD.out; omega, HL2.out, HE2, HB.out.alloc HB.out.size _⟩
        case measure => have := HMD.out; have := HZ.out; simp [intOf]; omega
      | succ e =>
        obtain ⟨bt, hbt⟩ : ∃ b, UInt8.ofNat (48 + (e + 1)) = b := ⟨_, rfl⟩
        have hcv := byte_conv1 wr e (e + 1) hd10 rfl
        rw [hbt] at hcv HE2 HL2
        clear hbt
        have hdn : decide (-((e + 1 : Nat) : Int) < 0) = true := decide_eq_true (by omega)
        go_wp2
        go_roundw
        case rel => exact ⟨_, q, bt :: l, rfl, rfl, str_eq (ba_app [bt] l), by have := HMD.out; omega, HL2.out, HE2, HB.out.alloc HB.out.size _⟩
        case measure => have := HMD.out; have := HZ.out; simp [intOf]; omega

set_option maxRecDepth 100000 in
set_option maxHeartbeats 2000000 in
theorem rprint_zero (w : World) :
    Calls Tryd.prog 20 #[.int .i64 0] w fun e w' => e = .returned (.string ⟨#[48]⟩) ∧ Below w.heap.size w w' := by
  go_enter Tryd.func20, Tryd.ntmps20
  go_wp2
  go_ret
  exact ⟨rfl, Below.refl _ _⟩
theorem rprint_any (w : World) (n : Int) (h0 : -9223372036854775808 ≤ n) (h1 : n ≤ 9223372036854775807) :
    Calls Tryd.prog 20 #[.int .i64 n] w fun e w' => e = .returned (.string ⟨(Lib.itoa n).toArray⟩) ∧ Below w.heap.size w w' := by
  rcases Int.lt_trichotomy n 0 with h | rfl | h
  · obtain ⟨N, rfl⟩ : ∃ N : Nat, n = -(N : Int) := ⟨(-n).toNat, by omega⟩
    have e : Lib.itoa (-(N : Int)) = 45 :: dgL N := by
      unfold Lib.itoa dgL
      rw [if_pos h, if_neg (by omega), show (-(N : Int)).natAbs = N by omega]
    rw [e]
    exact rprint_neg N (by omega) (by omega)
  · have e : (⟨(Lib.itoa 0).toArray⟩ : ByteArray) = ⟨#[48]⟩ := by decide +kernel
    rw [e]; exact rprint_zero w
  · obtain ⟨N, rfl⟩ := Int.eq_ofNat_of_zero_le (Int.le_of_lt h)
    have e : Lib.itoa (N : Int) = dgL N := by
      unfold Lib.itoa dgL
      rw [if_neg (by omega), if_neg (by omega), Int.toNat_natCast]
    rw [e]
    exact rprint_pos N (by omega) (by omega)

end

theorem nameOK_0 {s : ByteArray} (h : s.size = 0) : nameOK s = false := by rw [nameOK_end (NameTo.zero s) (by omega), decide_eq_false (by omega)]; rfl
theorem nameOK_17 {s : ByteArray} (h : 16 < s.size) : nameOK s = false := by unfold nameOK; rw [decide_eq_false (show ¬ s.size ≤ 16 by omega)]; simp
theorem nameOK_kn {s : ByteArray} (h : knownB s = true) : nameOK s = false := by unfold nameOK; rw [h]; simp

set_option maxRecDepth 100000 in
set_option maxHeartbeats 2000000 in
theorem rname_any (s : ByteArray) (w : World) :
    Calls Tryd.prog 19 #[.string s] w fun e w' => e = .returned (.bool (nameOK s)) ∧ Below w.heap.size w w' := by
  have he := empty_list s
  by_cases h0 : s.size = 0
  · rw [decide_eq_true h0] at he
    have HF := Lib.hid (nameOK_0 h0)
    rw [HF.out]
    clear h0
    go_enter Tryd.func19, Tryd.ntmps19
    go_wp2
    go_ret
    exact ⟨rfl, Below.refl _ _⟩
  rw [decide_eq_false h0] at he
  by_cases h17 : 16 < s.size
  · have HF := Lib.hid (nameOK_17 h17)
    rw [HF.out]
    have hz : (16 : Int) < (s.size : Int) := by omega
    clear h0 h17
    go_enter Tryd.func19, Tryd.ntmps19
    go_wp2
    go_ret
    exact ⟨rfl, Below.refl _ _⟩
  have hz : ¬ (16 : Int) < (s.size : Int) := by omega
  have HKN := Lib.hid (rknown_any s w)
  have HE : Hid (knownB s = false → NameTo s s.size → nameOK s = true) := by
    intro hk hn
    rw [nameOK_end hn (Nat.le_refl _), hk, decide_eq_true (by omega), decide_eq_true (by omega)]; rfl
  have HKF : Hid (knownB s = true → nameOK s = false) := nameOK_kn
  have hsz : s.size ≤ 16 := by omega
  obtain ⟨kn, hkn⟩ : ∃ k, knownB s = k := ⟨_, rfl⟩
  rw [hkn] at HKN HE HKF
  clear h0 h17 hkn
  go_enter Tryd.func19, Tryd.ntmps19
  go_wp2_with fail
  refine HKN.out.mono ?_
  rintro e w1 ⟨rfl, hb1⟩
  have HB1 := Lib.hid hb1
  clear hb1
  cases kn
  · go_wp2
    go_loop [3] (fun i => ∃ k : Nat, k ≤ s.size ∧ i = .int .i64 k ∧ Hid (NameTo s k)) (fun i => s.size - (intOf i).toNat)
    case atStart => exact ⟨0, Nat.zero_le _, by go_num, NameTo.zero s⟩
    case round =>
      obtain ⟨k, hk, rfl, HN⟩ := hrel
      by_cases hlt : k < s.size
      · have HY : Hid (nameRune (decide (k = 0)) (((s[k]'hlt).toNat : Nat) : Int) = true → NameTo s (k + 1)) := by
          intro hr; rw [← nameByte_rune] at hr; exact HN.out.next hlt hr
        have HX : Hid (nameRune (decide (k = 0)) (((s[k]'hlt).toNat : Nat) : Int) = false → nameOK s = false) := by
          intro hr; rw [← nameByte_rune] at hr; exact nameOK_no (Lib.data_getElem? s k hlt) hr
        have hb0 : (s[k]'hlt).toNat < 256 := (s[k]'hlt).toNat_lt
        have hcell : s.data.toList[k]? = some (s[k]'hlt) := Lib.data_getElem? s k hlt
        obtain ⟨b, hbb⟩ : ∃ b, s[k]'hlt = b := ⟨_, rfl⟩
        rw [hbb] at hcell hb0 HY HX
        have hkz : (k : Int) < (s.size : Int) := by omega
        obtain ⟨c, hc⟩ : ∃ c : Int, ((b.toNat : Nat) : Int) = c := ⟨_, rfl⟩
        rw [hc] at HY HX
        have hc0 : 0 ≤ c := by omega
        have hc1 : c < 256 := by omega
        clear hb0 hk hz
        rcases (show c < 48 ∨ (48 ≤ c ∧ c ≤ 57) ∨ (58 ≤ c ∧ c ≠ 95 ∧ c < 97) ∨ c = 95 ∨ (97 ≤ c ∧ c ≤ 122) ∨ 122 < c by omega) with h | h | h | h | h | h
        · have f0 : decide ((97 : Int) ≤ c) = false := decide_eq_false (by omega)
          have f1 : decide ((48 : Int) ≤ c) = false := decide_eq_false (by omega)
          have f2 : (c == 95) = false := beq_eq_false_iff_ne.2 (by omega)
          rcases k with _ | q
          · skip
            have HQ := Lib.hid (HX.out (by unfold nameRune smallB digitB; simp; omega))
            clear HY HX h hc0 hc1 HE HKF
            go_wp2
            go_ret
            exact ⟨ret_bool HQ.out.symm, HB1.out⟩
          · have hq : (0 : Int) < (q : Int) + 1 := by omega
            have HQ := Lib.hid (HX.out (by unfold nameRune smallB digitB; simp; omega))
            clear HY HX h hc0 hc1 HE HKF
            go_wp2
            go_ret
            exact ⟨ret_bool HQ.out.symm, HB1.out⟩
        · have f0 : decide ((97 : Int) ≤ c) = false := decide_eq_false (by omega)
          have f1 : decide ((48 : Int) ≤ c) = true := decide_eq_true (by omega)
          have f2 : decide (c ≤ (57 : Int)) = true := decide_eq_true (by omega)
          rcases k with _ | q
          · skip
            have HQ := Lib.hid (HX.out (by unfold nameRune smallB digitB; simp; omega))
            clear HY HX h hc0 hc1 HE HKF
            go_wp2
            go_ret
            exact ⟨ret_bool HQ.out.symm, HB1.out⟩
          · have hq : (0 : Int) < (q : Int) + 1 := by omega
            have HQ := Lib.hid (HY.out (by unfold nameRune smallB digitB; simp; omega))
            clear HY HX h hc0 hc1 HE HKF
            go_wp2
            go_round
            case rel => exact ⟨q + 1 + 1, by omega, by go_num, HQ.out⟩
            case measure => simp [intOf]; omega
        · have f0 : decide ((97 : Int) ≤ c) = false := decide_eq_false (by omega)
          have f1 : decide ((48 : Int) ≤ c) = true := decide_eq_true (by omega)
          have f2 : decide (c ≤ (57 : Int)) = false := decide_eq_false (by omega)
          have f3 : (c == 95) = false := beq_eq_false_iff_ne.2 (by omega)
          rcases k with _ | q
          · skip
            have HQ := Lib.hid (HX.out (by unfold nameRune smallB digitB; simp; omega))
            clear HY HX h hc0 hc1 HE HKF
            go_wp2
            go_ret
            exact ⟨ret_bool HQ.out.symm, HB1.out⟩
          · have hq : (0 : Int) < (q : Int) + 1 := by omega
            have HQ := Lib.hid (HX.out (by unfold nameRune smallB digitB; simp; omega))
            clear HY HX h hc0 hc1 HE HKF
            go_wp2
            go_ret
            exact ⟨ret_bool HQ.out.symm, HB1.out⟩
        · have f0 : decide ((97 : Int) ≤ c) = false := decide_eq_false (by omega)
          have f1 : decide ((48 : Int) ≤ c) = true := decide_eq_true (by omega)
          have f2 : decide (c ≤ (57 : Int)) = false := decide_eq_false (by omega)
          have f3 : (c == 95) = true := beq_iff_eq.2 (by omega)
          rcases k with _ | q
          · skip
            have HQ := Lib.hid (HX.out (by unfold nameRune smallB digitB; simp; omega))
            clear HY HX h hc0 hc1 HE HKF
            go_wp2
            go_ret
            exact ⟨ret_bool HQ.out.symm, HB1.out⟩
          · have hq : (0 : Int) < (q : Int) + 1 := by omega
            have HQ := Lib.hid (HY.out (by unfold nameRune smallB digitB; simp; omega))
            clear HY HX h hc0 hc1 HE HKF
            go_wp2
            go_round
            case rel => exact ⟨q + 1 + 1, by omega, by go_num, HQ.out⟩
            case measure => simp [intOf]; omega
        · have f0 : decide ((97 : Int) ≤ c) = true := decide_eq_true (by omega)
          have f1 : decide (c ≤ (122 : Int)) = true := decide_eq_true (by omega)
          rcases k with _ | q
          · skip
            have HQ := Lib.hid (HY.out (by unfold nameRune smallB digitB; simp; omega))
            clear HY HX h hc0 hc1 HE HKF
            go_wp2
            go_round
            case rel => exact ⟨0 + 1, by omega, by go_num, HQ.out⟩
            case measure => simp [intOf]; omega
          · have hq : (0 : Int) < (q : Int) + 1 := by omega
            have HQ := Lib.hid (HY.out (by unfold nameRune smallB digitB; simp; omega))
            clear HY HX h hc0 hc1 HE HKF
            go_wp2
            go_round
            case rel => exact ⟨q + 1 + 1, by omega, by go_num, HQ.out⟩
            case measure => simp [intOf]; omega
        · have f0 : decide ((97 : Int) ≤ c) = true := decide_eq_true (by omega)
          have f1 : decide (c ≤ (122 : Int)) = false := decide_eq_false (by omega)
          have f2 : decide ((48 : Int) ≤ c) = true := decide_eq_true (by omega)
          have f3 : decide (c ≤ (57 : Int)) = false := decide_eq_false (by omega)
          have f4 : (c == 95) = false := beq_eq_false_iff_ne.2 (by omega)
          rcases k with _ | q
          · skip
            have HQ := Lib.hid (HX.out (by unfold nameRune smallB digitB; simp; omega))
            clear HY HX h hc0 hc1 HE HKF
            go_wp2
            go_ret
            exact ⟨ret_bool HQ.out.symm, HB1.out⟩
          · have hq : (0 : Int) < (q : Int) + 1 := by omega
            have HQ := Lib.hid (HX.out (by unfold nameRune smallB digitB; simp; omega))
            clear HY HX h hc0 hc1 HE HKF
            go_wp2
            go_ret
            exact ⟨ret_bool HQ.out.symm, HB1.out⟩
      · have hkl : k = s.size := by omega
        subst hkl
        have HF := Lib.hid (HE.out (by first | rfl | trivial) HN.out)
        go_wp2
        go_ret
        exact ⟨ret_bool HF.out.symm, HB1.out⟩
  · have HF := Lib.hid (HKF.out rfl)
    go_wp2
    go_ret
    exact ⟨ret_bool HF.out.symm, HB1.out⟩


end Go.Proofs.YtgmijfmbbaipfaaDoor
