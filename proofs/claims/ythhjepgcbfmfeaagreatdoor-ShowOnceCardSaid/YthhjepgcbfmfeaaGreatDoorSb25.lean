/- Contracts of the two Names: which texts are names. -/
import Derived.Test.YthhjepgcbfmfeaaGreatDoorSb13
import Derived.Test.YthhjepgcbfmfeaaGreatDoorSb05
import Derived.Test.YthhjepgcbfmfeaaGreatDoorSb04
import Derived.Test.YthhjepgcbfmfeaaGreatDoorSb02
import Derived.Test.YthhjepgcbfmfeaaGreatDoorSb03
import Derived.Lib.LaidTab
import Derived.WalkSmall

namespace Go.Proofs.YthhjepgcbfmfeaaGreatDoor
open Go.RowKit

/-- the tables of the library that are read, and the cell of MaxLen -/
structure Tabs (w : World) : Prop where
  mx : MaxCell w
  pow : Lib.TabIs Tryz.prog w "internal/strconv.uint64pow10" .u64 Lib.pow10Tab
  spc : Lib.TabIs Tryz.prog w "strings.asciiSpace" .u8 Lib.asciiSpaceTab
def TabLow (B : Nat) : Prop := 2 < B ∧ 4 < B ∧ 0 < B
theorem TabLow.mono {B C : Nat} (h : TabLow B) (hc : B ≤ C) : TabLow C := ⟨Nat.lt_of_lt_of_le h.1 hc, Nat.lt_of_lt_of_le h.2.1 hc, Nat.lt_of_lt_of_le h.2.2 hc⟩
theorem Tabs.below {w w' : World} {B : Nat} (h : Tabs w) (hb : Below B w w') (hB : TabLow B) : Tabs w' :=
  ⟨h.mx.below hb hB.1, var?_below hb (show Tryz.prog.globalNamed "internal/strconv.uint64pow10" = some 4 by kernel_rfl) hB.2.1 h.pow, var?_below hb (show Tryz.prog.globalNamed "strings.asciiSpace" = some 0 by kernel_rfl) hB.2.2 h.spc⟩
theorem var_lt {w : World} {n : String} {g : Nat} {cs : Array Value} (hg : Tryz.prog.globalNamed n = some g) (h : w.var? Tryz.prog n = some cs) : g < w.heap.size := by
  unfold World.var? at h
  rw [hg] at h
  rcases Nat.lt_or_ge g w.heap.size with h' | h'
  · exact h'
  · rw [Option.bind_some, Array.getElem?_eq_none h'] at h; simp at h
theorem Tabs.low {w : World} (h : Tabs w) : TabLow w.heap.size :=
  ⟨by obtain ⟨m, hm⟩ := h.mx; exact World.block_lt_of_cell? w _ hm, var_lt (show Tryz.prog.globalNamed "internal/strconv.uint64pow10" = some 4 by kernel_rfl) h.pow, var_lt (show Tryz.prog.globalNamed "strings.asciiSpace" = some 0 by kernel_rfl) h.spc⟩
theorem Tabs.keep {w w' : World} (h : Tabs w) (hb : Below w.heap.size w w') : Tabs w' := h.below hb h.low
theorem Tabs.alloc {w : World} (h : Tabs w) (o : Obj) : Tabs (w.alloc o) := h.keep ((Below.refl _ w).alloc (Nat.le_refl _) o)

theorem nameL_iff (l : List UInt8) : nameL l = true ↔ 0 < l.length ∧ ∀ (j : Nat) (b : UInt8), l[j]? = some b → nameByte (decide (j = 0)) b = true := by
  cases l with
  | nil => simp [nameL]
  | cons b r =>
    rw [nameL, Bool.and_eq_true, List.all_eq_true]
    constructor
    · rintro ⟨h1, h2⟩
      refine ⟨by simp, fun j c hc => ?_⟩
      cases j with
      | zero => simp only [List.getElem?_cons_zero, Option.some.injEq] at hc; subst hc; simpa using h1
      | succ j =>
        simp only [List.getElem?_cons_succ] at hc
        simpa using h2 c (List.mem_of_getElem? hc)
    · rintro ⟨_, h2⟩
      refine ⟨by simpa using h2 0 b rfl, fun c hc => ?_⟩
      obtain ⟨j, hj⟩ := List.getElem?_of_mem hc
      simpa using h2 (j + 1) c (by simpa using hj)
theorem nameOK_no {s : ByteArray} {j : Nat} {b : UInt8} (h : s.data.toList[j]? = some b) (hb : nameByte (decide (j = 0)) b = false) : nameOK s = false := by
  unfold nameOK
  have : nameL s.data.toList = false := by
    refine Bool.eq_false_iff.2 fun hn => ?_
    have := ((nameL_iff _).1 hn).2 j b h
    rw [hb] at this; cases this
  rw [this]; rfl
/-- the bytes ahead of a place are a name's -/
def NameTo (s : ByteArray) (p : Nat) : Prop := ∀ (j : Nat) (b : UInt8), j < p → s.data.toList[j]? = some b → nameByte (decide (j = 0)) b = true
theorem NameTo.zero (s : ByteArray) : NameTo s 0 := fun j b h => by omega
theorem NameTo.next {s : ByteArray} {p : Nat} (h : NameTo s p) (hp : p < s.size) (hb : nameByte (decide (p = 0)) (s[p]'hp) = true) : NameTo s (p + 1) := fun j b hj he => by
  by_cases hlt : j < p
  · exact h j b hlt he
  · obtain rfl : j = p := by omega
    have e : s.data.toList[j]? = some (s[j]'hp) := Lib.data_getElem? s j hp
    rw [e] at he; cases he; exact hb
theorem nameOK_end {s : ByteArray} {p : Nat} (h : NameTo s p) (hp : s.size ≤ p) : nameOK s = (decide (0 < s.size) && decide (s.size ≤ 16) && !knownB s) := by
  unfold nameOK
  congr 2
  rw [Bool.eq_iff_iff, nameL_iff, decide_eq_true_iff]
  constructor
  · rintro ⟨h1, _⟩; simpa using h1
  · intro h1
    refine ⟨by simpa using h1, fun j b hj => h j b ?_ hj⟩
    have := (List.getElem?_eq_some_iff.1 hj).1
    simp at this; omega
theorem raw_small (s : ByteArray) (p : Nat) (hp : p < s.size) (h1 : (Utf8.decode s p).1 < 128) : (Utf8.decode s p).2 = 1 ∧ (s[p]'hp).toNat = (Utf8.decode s p).1 := by
  have hg : s.get! p = s[p]'hp := by
    simp [ByteArray.get!, ByteArray.getElem_eq_getElem_data, getElem!_pos, hp]
  have hb : (s.get! (p + 0)).toNat < 128 → Utf8.decode s p = ((s.get! (p + 0)).toNat, 1) := by
    intro h; unfold Utf8.decode; simp only; rw [if_pos h]
  by_cases hs : (s.get! (p + 0)).toNat < 128
  · rw [hb hs]; refine ⟨rfl, ?_⟩; rw [Nat.add_zero, hg]
  · exfalso
    rcases dec_cases s p with h | h | h | h
    · revert h1
      unfold Utf8.decode
      simp only
      rw [if_neg hs]
      repeat' split
      all_goals simp_all [Utf8.runeError]
      all_goals omega
    · omega
    · omega
    · omega
theorem raw_great (s : ByteArray) (p : Nat) (hp : p < s.size) (h1 : 128 ≤ (Utf8.decode s p).1) : 128 ≤ (s[p]'hp).toNat := by
  have hg : s.get! p = s[p]'hp := by
    simp [ByteArray.get!, ByteArray.getElem_eq_getElem_data, getElem!_pos, hp]
  have hb : (s.get! (p + 0)).toNat < 128 → Utf8.decode s p = ((s.get! (p + 0)).toNat, 1) := by
    intro h; unfold Utf8.decode; simp only; rw [if_pos h]
  refine Classical.byContradiction fun h => ?_
  have h2 : (s.get! (p + 0)).toNat < 128 := by rw [Nat.add_zero, hg]; omega
  rw [hb h2] at h1
  simp only at h1
  omega
/-- what a name's byte is, asked of a rune -/
def nameRune (first : Bool) (r : Int) : Bool := smallB r || (!first && (digitB r || decide (r = 95)))
theorem nameByte_rune (first : Bool) (b : UInt8) : nameByte first b = nameRune first (b.toNat : Int) := by
  have h1 : decide (97 ≤ (b.toNat : Int) ∧ (b.toNat : Int) ≤ 122) = (decide (97 ≤ b.toNat) && decide (b.toNat ≤ 122)) := by
    rw [Bool.eq_iff_iff]; simp; omega
  have h2 : decide (48 ≤ (b.toNat : Int) ∧ (b.toNat : Int) ≤ 57) = (decide (48 ≤ b.toNat) && decide (b.toNat ≤ 57)) := by
    rw [Bool.eq_iff_iff]; simp; omega
  have h3 : decide ((b.toNat : Int) = 95) = decide (b.toNat = 95) := by
    rw [Bool.eq_iff_iff]; simp; omega
  unfold nameByte nameRune
  show _ = (decide (97 ≤ (b.toNat : Int) ∧ (b.toNat : Int) ≤ 122) || (!first && (decide (48 ≤ (b.toNat : Int) ∧ (b.toNat : Int) ≤ 57) || decide ((b.toNat : Int) = 95))))
  rw [h1, h2, h3]
theorem nameRune_high (first : Bool) {r : Int} (h : 128 ≤ r) : nameRune first r = false := by
  have h1 : smallB r = false := by show decide _ = false; exact decide_eq_false (by omega)
  have h2 : digitB r = false := by show decide _ = false; exact decide_eq_false (by omega)
  unfold nameRune; rw [h1, h2, decide_eq_false (by omega)]; simp
theorem name_step {s : ByteArray} {p : Nat} (h : NameTo s p) (hp : p < s.size) (hr : nameRune (decide (p = 0)) ((Utf8.decode s p).1 : Int) = true) : (Utf8.decode s p).2 = 1 ∧ NameTo s (p + 1) := by
  have hlt : (Utf8.decode s p).1 < 128 := by
    refine Classical.byContradiction fun hn => ?_
    rw [nameRune_high _ (by omega)] at hr; cases hr
  obtain ⟨h1, h2⟩ := raw_small s p hp hlt
  exact ⟨h1, h.next hp (by rw [nameByte_rune, h2]; exact hr)⟩
theorem name_fail {s : ByteArray} {p : Nat} (hp : p < s.size) (hr : nameRune (decide (p = 0)) ((Utf8.decode s p).1 : Int) = false) : nameOK s = false := by
  refine nameOK_no (Lib.data_getElem? s p hp) ?_
  rw [nameByte_rune]
  by_cases hlt : (Utf8.decode s p).1 < 128
  · rw [(raw_small s p hp hlt).2]; exact hr
  · exact nameRune_high _ (by have := raw_great s p hp (by omega); omega)
theorem empty_list (s : ByteArray) : (s.toList == []) = decide (s.size = 0) := by
  rw [ByteArray.toList_eq, Bool.eq_iff_iff, beq_iff_eq, decide_eq_true_iff]
  constructor
  · intro h; have : s.data.toList.length = 0 := by rw [h]; rfl
    simpa using this
  · intro h; exact List.length_eq_zero_iff.1 (by simpa using h)

set_option maxRecDepth 100000 in
set_option maxHeartbeats 2000000 in
theorem name_yes (s : ByteArray) (w : World) (hm : MaxCell w) (hs : s.size ≤ 140737488351232) :
    Calls Tryz.prog 31 #[.string s] w fun e w' => e = .returned (.bool (nameOK s)) ∧ Below w.heap.size w w' := by
  have HM := Lib.hid hm
  have H0 : Hid ((w.iter s 0).heap[w.heap.size]? = some (.stringIter s 0) ∧ Below w.heap.size w (w.iter s 0)) := by
    refine ⟨World.iter_heap w s 0, ?_⟩
    exact (Below.refl _ w).alloc (Nat.le_refl _) _
  have HZ : Hid (2 < w.heap.size) := by obtain ⟨m, hm⟩ := hm; exact World.block_lt_of_cell? w _ hm
  clear hm
  go_enter Tryz.func31, Tryz.ntmps31
  go_wp2
  go_loopw [3, 4] (fun _ _ wr => ∃ (p : Nat), p ≤ s.size ∧ wr.heap[w.heap.size]? = some (.stringIter s p) ∧ Below w.heap.size w wr ∧ Hid (NameTo s p)) (fun _ _ wr => s.size - wr.iterPos w.heap.size)
  case atStart => exact ⟨0, Nat.zero_le _, H0.out.1, H0.out.2, Lib.hid (NameTo.zero s)⟩
  case round =>
    obtain ⟨p, hp, hit, hb, HE⟩ := hrel
    have hpo : (wr.iterPos w.heap.size) = p := by simp [World.iterPos, hit]
    have HPO := Lib.hid hpo; clear hpo
    by_cases hlt : p < s.size
    · have hnx := fun ty => Lib.run_next_any_at (P := Tryz.prog) wr w.heap.size s p ty hit hlt
      have hit1 := Lib.iterAt_heap wr w.heap.size s p (p + (Utf8.decode s p).2) hit
      have hb1 := Lib.below_iterAt hb (k := w.heap.size) (by omega) s (p + (Utf8.decode s p).2)
      have hyes : Hid (nameRune (decide (p = 0)) ((Utf8.decode s p).1 : Int) = true → (Utf8.decode s p).2 = 1 ∧ NameTo s (p + 1)) := fun hr => name_step HE.out hlt hr
      have hno : Hid (nameRune (decide (p = 0)) ((Utf8.decode s p).1 : Int) = false → nameOK s = false) := fun hr => name_fail hlt hr
      have HN : Hid (p + (Utf8.decode s p).2 ≤ s.size ∧ 1 ≤ (Utf8.decode s p).2) := ⟨decN_le s p hlt, decN_pos s p⟩
      obtain ⟨r, hr⟩ : ∃ r : Int, ((Utf8.decode s p).1 : Int) = r := ⟨_, rfl⟩
      obtain ⟨n, hn⟩ : ∃ n : Nat, (Utf8.decode s p).2 = n := ⟨_, rfl⟩
      simp only [hr, hn] at hnx hit1 hb1 hyes hno HN
      have HX := Lib.hid (And.intro hit1 hb1)
      have hltz : (p : Int) < (s.size : Int) := by omega
      clear hit hb hit1 hb1 hr hn HE H0
      have hsmall := Lib.hid (smallB_any r)
      have hdigit := Lib.hid (digitB_any r)
      cases hsm : smallB r
      · rw [hsm] at hsmall
        cases p with
        | zero =>
          have HF : Hid (nameOK s = false) := hno.out (by unfold nameRune; rw [hsm]; rfl)
          clear hyes hno hdigit
          go_wp2_with fail
          refine (hsmall.out _).mono ?_
          rintro e w4 ⟨rfl, rfl⟩
          go_wp2
          go_ret
          exact ⟨ret_bool HF.out.symm, by have h2 := HX.out.2; rw [Nat.zero_add] at h2; exact h2⟩
        | succ q =>
          have hq0 : ((q : Int) + 1 == 0) = false := beq_eq_false_iff_ne.2 (by omega)
          have hdq : decide (q + 1 = 0) = false := decide_eq_false (by omega)
          cases hdg : digitB r
          · rw [hdg] at hdigit
            by_cases h95 : r = 95
            · subst h95
              have HY : Hid (n = 1 ∧ NameTo s (q + 1 + 1)) := hyes.out (by unfold nameRune; rw [hdq]; simp)
              clear hyes hno hdq
              go_wp2_with fail
              refine (hsmall.out _).mono ?_
              rintro e w4 ⟨rfl, rfl⟩
              go_wp2_with fail
              refine (hdigit.out _).mono ?_
              rintro e w4 ⟨rfl, rfl⟩
              go_wp2
              go_roundw
              case rel => obtain ⟨e1, e2⟩ := HY.out; subst e1; exact ⟨q + 1 + 1, HN.out.1, HX.out.1, HX.out.2, e2⟩
              case measure => exact iter_less HX.out.1 HPO.out (by have := HN.out.2; omega) HN.out.1
            · have hr95 : (r == 95) = false := beq_eq_false_iff_ne.2 h95
              have HF : Hid (nameOK s = false) := hno.out (by unfold nameRune; rw [hsm, hdg, decide_eq_false h95]; simp)
              clear hyes hno hdq h95
              go_wp2_with fail
              refine (hsmall.out _).mono ?_
              rintro e w4 ⟨rfl, rfl⟩
              go_wp2_with fail
              refine (hdigit.out _).mono ?_
              rintro e w4 ⟨rfl, rfl⟩
              go_wp2
              go_ret
              exact ⟨ret_bool HF.out.symm, HX.out.2⟩
          · rw [hdg] at hdigit
            have HY : Hid (n = 1 ∧ NameTo s (q + 1 + 1)) := hyes.out (by unfold nameRune; rw [hdq, hdg]; simp)
            clear hyes hno hdq
            go_wp2_with fail
            refine (hsmall.out _).mono ?_
            rintro e w4 ⟨rfl, rfl⟩
            go_wp2_with fail
            refine (hdigit.out _).mono ?_
            rintro e w4 ⟨rfl, rfl⟩
            go_wp2
            go_roundw
            case rel => obtain ⟨e1, e2⟩ := HY.out; subst e1; exact ⟨q + 1 + 1, HN.out.1, HX.out.1, HX.out.2, e2⟩
            case measure => exact iter_less HX.out.1 HPO.out (by have := HN.out.2; omega) HN.out.1
      · rw [hsm] at hsmall
        have HY : Hid (n = 1 ∧ NameTo s (p + 1)) := hyes.out (by unfold nameRune; rw [hsm]; rfl)
        clear hyes hno hdigit
        go_wp2_with fail
        refine (hsmall.out _).mono ?_
        rintro e w4 ⟨rfl, rfl⟩
        go_wp2
        go_roundw
        case rel => obtain ⟨e1, e2⟩ := HY.out; subst e1; exact ⟨p + 1, HN.out.1, HX.out.1, HX.out.2, e2⟩
        case measure => exact iter_less HX.out.1 HPO.out (by have := HN.out.2; omega) HN.out.1
    · have hnx := fun ty => Lib.run_next_end_at (P := Tryz.prog) wr w.heap.size s p ty hit hlt
      have hend := nameOK_end HE.out (by omega)
      have he := empty_list s
      have HM1 := Lib.hid (HM.out.below hb HZ.out)
      have HB := Lib.hid hb
      by_cases h0 : s.size = 0
      · rw [decide_eq_true h0] at he
        rw [decide_eq_false (by omega)] at hend
        have HEND := Lib.hid hend
        clear hb hit hend HE
        go_wp2
        go_ret
        exact ⟨ret_bool (by rw [HEND.out]; rfl), HB.out⟩
      · rw [decide_eq_false h0] at he
        rw [decide_eq_true (by omega)] at hend
        by_cases h16 : s.size ≤ 16
        · rw [decide_eq_true h16] at hend
          have h16z : (s.size : Int) ≤ 16 := by omega
          have HEND := Lib.hid hend
          have HK := Lib.hid (known_any s wr HM1.out (by omega))
          clear hb hit hend HE
          go_wp2_with fail
          refine HK.out.mono ?_
          rintro e w4 ⟨rfl, rfl⟩
          cases hk : knownB s
          · rw [hk] at HEND
            go_wp2
            go_ret
            exact ⟨ret_bool (by rw [HEND.out]; rfl), HB.out⟩
          · rw [hk] at HEND
            go_wp2
            go_ret
            exact ⟨ret_bool (by rw [HEND.out]; rfl), HB.out⟩
        · rw [decide_eq_false h16] at hend
          have h16z : ¬ (s.size : Int) ≤ 16 := by omega
          have HEND := Lib.hid hend
          clear hb hit hend HE
          go_wp2
          go_ret
          exact ⟨ret_bool (by rw [HEND.out]; rfl), HB.out⟩

end Go.Proofs.YthhjepgcbfmfeaaGreatDoor
