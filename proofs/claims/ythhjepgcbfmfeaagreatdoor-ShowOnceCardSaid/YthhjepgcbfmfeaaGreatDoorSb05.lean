/- Contract of token's value. Plain: a text between spaces in a row of words. Contract of token's Known. Plain: what the token reader does at a place: what is wrong, where it goes on, and the tokens then; and what its steps leave of memory. -/
import Derived.Test.YthhjepgcbfmfeaaGreatDoorSb04
import Derived.Lib.IndexMore
import Derived.Test.YthhjepgcbfmfeaaGreatDoorShelf
import Derived.Lib.IndexLaws

namespace Go.Proofs.YthhjepgcbfmfeaaGreatDoor
open Go.RowKit

/-- bytes that are digits -/
def DigT (s : ByteArray) : Prop := ∀ (k : Nat) (h : k < s.size), 48 ≤ (s[k]'h).toNat ∧ (s[k]'h).toNat ≤ 57

theorem tdiv_dash (c : Nat) (h1 : 48 ≤ c) (h2 : c ≤ 57) : (-9223372036854775808 + ((c : Int) - 48)).tdiv 10 = -((9223372036854775808 - ((c : Int) - 48)) / 10) := by
  rw [show (-9223372036854775808 + ((c : Int) - 48)) = -(9223372036854775808 - ((c : Int) - 48)) by omega, Int.neg_tdiv, Int.tdiv_eq_ediv_of_nonneg (by omega)]

set_option maxHeartbeats 2000000 in
theorem value_pos (s : ByteArray) (w : World) (hs : s.size ≤ 4294967296) (h0 : 0 < s.size) (hn : DigT s) :
    Calls Tryz.prog 61 #[.string s] w fun e w' => e = .returned (.tuple #[.int .i64 (valN s false).1, .bool (valN s false).2]) ∧ w = w' := by
  have hb : decide ((s[0]'h0).toNat = 45) = false := decide_eq_false (by have := hn 0 h0; omega)
  have HN := Lib.hid hn
  clear hn
  go_enter Tryz.func61, Tryz.ntmps61
  go_wp2_with fail
  refine (trim_any s h0 _ hs).mono ?_
  rintro e w' ⟨rfl, rfl⟩
  rw [hb, show noDash s false = s from rfl]
  go_wp2
  go_loop [5, 6, 7, 12] (fun n _ _ i => ∃ (k m : Nat), k ≤ s.size ∧ i = .int .i64 k ∧ n = .int .i64 (-(m : Int)) ∧ m ≤ 9223372036854775808 ∧ Hid (numV (s.data.toList.take k) = m)) (fun _ _ _ i => s.size - (intOf i).toNat)
  case atStart => exact ⟨0, 0, Nat.zero_le _, rfl, rfl, by omega, rfl⟩
  case round =>
    obtain ⟨k, m, hk, rfl, rfl, hm, HE⟩ := hrel
    by_cases hlt : k < s.size
    · obtain ⟨c, hc⟩ : ∃ c, (s[k]'hlt).toNat = c := ⟨_, rfl⟩
      have hd : 48 ≤ c ∧ c ≤ 57 := by rw [← hc]; exact HN.out k hlt
      have hstep : numV (s.data.toList.take (k + 1)) = m * 10 + (c - 48) := by
        rw [numV_next s k hlt, HE.out]; unfold stepV; rw [hc, if_neg (by omega)]
      have ht := tdiv_dash c hd.1 hd.2
      by_cases hover : m * 10 + (c - 48) ≤ 9223372036854775808
      · have HS := Lib.hid hstep; clear hstep
        have hq : ¬ (-(m : Int) < (-9223372036854775808 + ((c : Int) - 48)).tdiv 10) := by rw [ht]; omega
        clear ht
        obtain ⟨hd1, hd2⟩ := hd
        go_wp2
        go_round
        case rel => exact ⟨k + 1, m * 10 + (c - 48), by omega, by go_num, by go_num, by omega, HS⟩
        case measure => simp [intOf]; omega
      · have hq : (-(m : Int) < (-9223372036854775808 + ((c : Int) - 48)).tdiv 10) := by rw [ht]; omega
        have HF : Hid (valN s false = (0, false)) := by
          refine Lib.hid ?_
          have := numV_take s.data.toList (k + 1)
          unfold valN
          rw [if_neg (by simp), if_neg (by omega)]
        clear ht hstep hover
        obtain ⟨hd1, hd2⟩ := hd
        go_wp2
        go_ret2
        exact ⟨ret_val (by rw [HF.out]) (by rw [HF.out]), rfl⟩
    · have he : numV s.data.toList = m := by
        have := HE.out
        rwa [List.take_of_length_le (by simp; omega)] at this
      have hl : (s.toList == s.toList) = true := by simp
      by_cases hmm : m = 9223372036854775808
      · have HF : Hid (valN s false = (0, false)) := by
          refine Lib.hid ?_
          unfold valN
          rw [if_neg (by simp), he, if_neg (by omega)]
        have hm1 : ((-(m : Int)) == -9223372036854775808) = true := by rw [beq_iff_eq]; omega
        clear he
        go_wp2
        go_ret2
        exact ⟨ret_val (by rw [HF.out]) (by rw [HF.out]), rfl⟩
      · have HF : Hid (valN s false = ((m : Int), true)) := by
          refine Lib.hid ?_
          unfold valN
          rw [if_neg (by simp), he, if_pos (by omega)]
        have hm1 : ((-(m : Int)) == -9223372036854775808) = false := beq_eq_false_iff_ne.2 (by omega)
        clear he
        go_wp2
        go_ret2
        exact ⟨ret_val (by first | (rw [HF.out]; done) | (rw [HF.out]; simp)) (by rw [HF.out]), rfl⟩

theorem numV_dash (s : ByteArray) (h0 : 0 < s.size) (h : (s[0]'h0).toNat = 45) : numV (s.extract 1 s.size).data.toList = numV s.data.toList := by
  rw [Lib.extract_data, List.take_of_length_le (by simp)]
  conv => rhs; rw [bytes_cons s h0]
  show _ = (s.data.toList.drop 1).foldl stepV (stepV 0 (s[0]'h0))
  unfold stepV
  rw [if_pos h]
  rfl

set_option maxHeartbeats 2000000 in
theorem value_neg (s : ByteArray) (w : World) (hs : s.size ≤ 4294967296) (h0 : 0 < s.size) (hb0 : (s[0]'h0).toNat = 45) (hn : DigT (s.extract 1 s.size)) :
    Calls Tryz.prog 61 #[.string s] w fun e w' => e = .returned (.tuple #[.int .i64 (valN s true).1, .bool (valN s true).2]) ∧ w = w' := by
  have hb : decide ((s[0]'h0).toNat = 45) = true := decide_eq_true hb0
  have hnum := numV_dash s h0 hb0
  have hds := ByteArray.size_extract (a := s) (b := 1) (e := s.size)
  obtain ⟨d, hd⟩ : ∃ d, s.extract 1 s.size = d := ⟨_, rfl⟩
  have hnd : noDash s true = d := hd
  rw [hd] at hnum hds hn
  have hds : d.size < s.size := by omega
  have HU := Lib.hid hnum
  clear hnum hb0 hd
  have HN := Lib.hid hn
  clear hn
  go_enter Tryz.func61, Tryz.ntmps61
  go_wp2_with fail
  refine (trim_any s h0 _ hs).mono ?_
  rintro e w' ⟨rfl, rfl⟩
  rw [hb, hnd]
  go_wp2
  go_loop [5, 6, 7, 12] (fun n _ _ i => ∃ (k m : Nat), k ≤ d.size ∧ i = .int .i64 k ∧ n = .int .i64 (-(m : Int)) ∧ m ≤ 9223372036854775808 ∧ Hid (numV (d.data.toList.take k) = m)) (fun _ _ _ i => d.size - (intOf i).toNat)
  case atStart => exact ⟨0, 0, Nat.zero_le _, rfl, rfl, by omega, rfl⟩
  case round =>
    obtain ⟨k, m, hk, rfl, rfl, hm, HE⟩ := hrel
    by_cases hlt : k < d.size
    · obtain ⟨c, hc⟩ : ∃ c, (d[k]'hlt).toNat = c := ⟨_, rfl⟩
      have hd : 48 ≤ c ∧ c ≤ 57 := by rw [← hc]; exact HN.out k hlt
      have hstep : numV (d.data.toList.take (k + 1)) = m * 10 + (c - 48) := by
        rw [numV_next d k hlt, HE.out]; unfold stepV; rw [hc, if_neg (by omega)]
      have ht := tdiv_dash c hd.1 hd.2
      by_cases hover : m * 10 + (c - 48) ≤ 9223372036854775808
      · have HS := Lib.hid hstep; clear hstep
        have hq : ¬ (-(m : Int) < (-9223372036854775808 + ((c : Int) - 48)).tdiv 10) := by rw [ht]; omega
        clear ht
        obtain ⟨hd1, hd2⟩ := hd
        go_wp2
        go_round
        case rel => exact ⟨k + 1, m * 10 + (c - 48), by omega, by go_num, by go_num, by omega, HS⟩
        case measure => simp [intOf]; omega
      · have hq : (-(m : Int) < (-9223372036854775808 + ((c : Int) - 48)).tdiv 10) := by rw [ht]; omega
        have HF : Hid (valN s true = (0, false)) := by
          refine Lib.hid ?_
          have := numV_take d.data.toList (k + 1)
          unfold valN
          rw [if_pos rfl, ← HU.out, if_neg (by omega)]
        clear ht hstep hover
        obtain ⟨hd1, hd2⟩ := hd
        go_wp2
        go_ret2
        exact ⟨ret_val (by rw [HF.out]) (by rw [HF.out]), rfl⟩
    · have he : numV d.data.toList = m := by
        have := HE.out
        rwa [List.take_of_length_le (by simp; omega)] at this
      have hl : (d.toList == s.toList) = false := by
        rw [beq_bytes]
        exact decide_eq_false (by rintro rfl; omega)
      have HF : Hid (valN s true = (-(m : Int), true)) := by
        refine Lib.hid ?_
        unfold valN
        rw [if_pos rfl, ← HU.out, he, if_pos (by omega)]
      clear he
      go_wp2
      go_ret2
      exact ⟨ret_val (by rw [HF.out]) (by rw [HF.out]), rfl⟩

end Go.Proofs.YthhjepgcbfmfeaaGreatDoor

namespace Go.Proofs.YthhjepgcbfmfeaaGreatDoor
open Go.RowKit

theorem index_cons (b : UInt8) (l sub : List UInt8) : (0 ≤ Lib.index (b :: l) sub) ↔ (sub.isPrefixOf (b :: l) = true ∨ 0 ≤ Lib.index l sub) := by
  have := Lib.index_ge l sub
  obtain ⟨q, hq⟩ : ∃ q, Lib.index l sub = q := ⟨_, rfl⟩
  rw [show Lib.index (b :: l) sub = if sub.isPrefixOf (b :: l) then 0 else if Lib.index l sub == -1 then -1 else Lib.index l sub + 1 by rw [Lib.index]]
  rw [hq] at this ⊢
  cases sub.isPrefixOf (b :: l)
  · by_cases h2 : q = -1
    · subst h2; simp
    · have h3 : (q == -1) = false := beq_eq_false_iff_ne.2 h2
      simp [h3]; omega
  · simp

theorem index_word (w rest sub : List UInt8) (h : ∀ b ∈ w, b ≠ 32) : (0 ≤ Lib.index (w ++ rest) (32 :: sub)) ↔ 0 ≤ Lib.index rest (32 :: sub) := by
  induction w with
  | nil => rfl
  | cons b t ih =>
    rw [List.cons_append, index_cons, ih (fun c hc => h c (List.mem_cons_of_mem _ hc))]
    have : (32 :: sub).isPrefixOf (b :: (t ++ rest)) = false := by
      have hb := h b (List.mem_cons_self)
      simp [List.isPrefixOf]
      intro e; exact absurd e.symm hb
    simp [this]

theorem prefix_word (s w rest : List UInt8) (hs : ∀ b ∈ s, b ≠ 32) (hw : ∀ b ∈ w, b ≠ 32) : (s ++ [32]).isPrefixOf (w ++ 32 :: rest) = true ↔ w = s := by
  induction s generalizing w with
  | nil =>
    cases w with
    | nil => simp [List.isPrefixOf]
    | cons c t =>
      have hc := hw c (List.mem_cons_self)
      simp [List.isPrefixOf]
      exact fun e => absurd e.symm hc
  | cons a l ih =>
    cases w with
    | nil =>
      have ha := hs a (List.mem_cons_self)
      simp [List.isPrefixOf, ha]
    | cons c t =>
      have := ih t (fun b hb => hs b (List.mem_cons_of_mem _ hb)) (fun b hb => hw b (List.mem_cons_of_mem _ hb))
      simp only [List.cons_append, List.isPrefixOf, Bool.and_eq_true, beq_iff_eq, this, List.cons.injEq]
      constructor
      · rintro ⟨h1, h2⟩; exact ⟨h1.symm, h2⟩
      · rintro ⟨h1, h2⟩; exact ⟨h1.symm, h2⟩

theorem index_words (ws : List (List UInt8)) (s : List UInt8) (hs : ∀ b ∈ s, b ≠ 32) (hw : ∀ w ∈ ws, ∀ b ∈ w, b ≠ 32) :
    (0 ≤ Lib.index (32 :: ws.flatMap (fun w => w ++ [32])) (32 :: (s ++ [32]))) ↔ s ∈ ws := by
  induction ws with
  | nil => rw [List.flatMap_nil, index_cons]; simp [Lib.index, List.isPrefixOf]
  | cons w t ih =>
    rw [List.flatMap_cons, List.append_assoc, index_cons, List.singleton_append, index_word _ _ _ (hw w (List.mem_cons_self)), ih (fun x hx => hw x (List.mem_cons_of_mem _ hx))]
    have := prefix_word s w (t.flatMap (fun w => w ++ [32])) hs (hw w (List.mem_cons_self))
    simp only [List.isPrefixOf, beq_self_eq_true, Bool.true_and, this, List.mem_cons]
    constructor
    · intro h
      rcases h with h | h
      · exact .inl h.symm
      · exact .inr h
    · intro h
      rcases h with h | h
      · exact .inl h.symm
      · exact .inr h

end Go.Proofs.YthhjepgcbfmfeaaGreatDoor

namespace Go.Proofs.YthhjepgcbfmfeaaGreatDoor
open Go.RowKit

/-- the words in a row, as token has them -/
def wordsT : ByteArray := ⟨#[32, 97, 116, 116, 114, 32, 117, 115, 101, 114, 32, 114, 111, 108, 101, 32, 115, 116, 97, 103, 101, 32, 105, 110, 32, 101, 118, 101, 110, 116, 32, 98, 121, 32, 115, 101, 116, 115, 32, 109, 97, 120, 32, 111, 110, 32, 105, 102, 32, 103, 117, 97, 114, 100, 32, 109, 105, 108, 101, 115, 116, 111, 110, 101, 32, 111, 102, 32, 102, 105, 110, 97, 108, 32, 115, 111, 100, 32, 97, 110, 100, 32, 111, 114, 32, 110, 111, 116, 32, 105, 109, 112, 108, 105, 101, 115, 32, 111, 112, 101, 110, 32, 100, 111, 110, 101, 32, 99, 97, 110, 32, 100, 105, 100, 32, 99, 111, 109, 112, 108, 101, 116, 101, 32, 115, 116, 117, 99, 107, 32, 116, 114, 117, 101, 32, 102, 97, 108, 115, 101, 32, 105, 100, 108, 101, 32, 108, 111, 111, 112, 32, 65, 88, 32, 69, 88, 32, 65, 70, 32, 69, 70, 32, 65, 71, 32, 69, 71, 32, 65, 32, 69, 32, 85, 32]⟩

theorem wordsT_is : wordsT.data.toList = 32 :: (wordsB.map (fun x => x.data.toList)).flatMap (fun w => w ++ [32]) := by decide +kernel

theorem wordsT_size : wordsT.size < 4294967281 := by decide +kernel

def spaceB (s : ByteArray) : Bool := decide (0 ≤ Lib.indexByte s.data.toList 32)

theorem noSpace (l : List UInt8) (h : decide (0 ≤ Lib.indexByte l 32) = false) : ∀ b ∈ l, b ≠ 32 := by
  have h1 := of_decide_eq_false h
  have h2 := Lib.indexByte_ge l 32
  have h3 := Lib.indexByte_none (show Lib.indexByte l 32 = -1 by omega)
  intro b hb e
  subst e
  obtain ⟨k, hk⟩ := List.getElem?_of_mem hb
  exact h3 k hk

/-- the cell of internal/bytealg's MaxLen holds some number -/
def MaxCell (w : World) : Prop := ∃ m, w.cell? ⟨2, 0, none⟩ = some (.int .i64 m)
theorem MaxCell.below {w w' : World} {B : Nat} (h : MaxCell w) (hb : Below B w w') (hB : 2 < B) : MaxCell w' := by
  obtain ⟨m, hm⟩ := h
  exact ⟨m, (hb.cell (p := ⟨2, 0, none⟩) hB).trans hm⟩

theorem words_noSpace : ∀ w ∈ wordsB.map (fun x => x.data.toList), ∀ b ∈ w, b ≠ 32 := by decide +kernel

theorem known_is (s : ByteArray) (h : spaceB s = false) : Lib.contains wordsT.data.toList ((⟨#[32]⟩ : ByteArray) ++ s ++ (⟨#[32]⟩ : ByteArray)).data.toList = knownB s := by
  have e : ((⟨#[32]⟩ : ByteArray) ++ s ++ (⟨#[32]⟩ : ByteArray)).data.toList = 32 :: (s.data.toList ++ [32]) := by simp [ByteArray.data_append]
  rw [e, wordsT_is]
  unfold Lib.contains knownB
  rw [Bool.eq_iff_iff, decide_eq_true_iff, index_words _ _ (noSpace _ h) words_noSpace, List.any_eq_true]
  simp only [List.mem_map, decide_eq_true_eq]
  constructor
  · rintro ⟨x, hx, hq⟩
    exact ⟨x, hx, ByteArray.ext (Array.ext' hq)⟩
  · rintro ⟨x, hx, rfl⟩
    exact ⟨x, hx, rfl⟩

set_option maxHeartbeats 1000000 in
theorem known_space (s : ByteArray) (w : World) (hs : s.size ≤ 4611686018427387904) (h0 : 0 < s.size) (h : spaceB s = true) :
    Calls Tryz.prog 52 #[.string s] w fun e w' => e = .returned (.bool false) ∧ w = w' := by
  have H := Lib.hid h
  clear h
  have he : (s.toList == []) = false := by
    rw [ByteArray.toList_eq]
    cases hq : s.data.toList with
    | nil => have : s.data.toList.length = 0 := by rw [hq]; rfl
             have h2 : s.data.toList.length = s.size := by simp
             omega
    | cons a t => rfl
  go_enter Tryz.func52, Tryz.ntmps52
  go_wp2_with fail
  refine (Tryz.strings_Contains_one s 32 _).mono ?_
  rintro e w' ⟨rfl, hw⟩
  subst hw
  rw [show decide (0 ≤ Lib.indexByte s.data.toList 32) = true from H.out]
  go_wp2
  go_ret
  exact ⟨rfl, rfl⟩

set_option maxHeartbeats 1000000 in
theorem known_empty (s : ByteArray) (w : World) (h0 : s.size = 0) :
    Calls Tryz.prog 52 #[.string s] w fun e w' => e = .returned (.bool false) ∧ w = w' := by
  have he : (s.toList == []) = true := by
    rw [ByteArray.toList_eq]
    cases hq : s.data.toList with
    | nil => rfl
    | cons a t => have h2 : s.data.toList.length = s.size := by simp
                  rw [hq] at h2; simp at h2; omega
  go_enter Tryz.func52, Tryz.ntmps52
  go_wp2
  go_ret
  exact ⟨rfl, rfl⟩

set_option maxHeartbeats 1000000 in
theorem known_full (s : ByteArray) (w : World) (hw0 : MaxCell w) (hs : s.size ≤ 4611686018427387904) (h0 : 0 < s.size) (h : spaceB s = false) :
    Calls Tryz.prog 52 #[.string s] w fun e w' => e = .returned (.bool (knownB s)) ∧ w = w' := by
  have H := Lib.hid h
  obtain ⟨m, hm⟩ := hw0
  clear h
  have he : (s.toList == []) = false := by
    rw [ByteArray.toList_eq]
    cases hq : s.data.toList with
    | nil => have : s.data.toList.length = 0 := by rw [hq]; rfl
             have h2 : s.data.toList.length = s.size := by simp
             omega
    | cons a t => rfl
  go_enter Tryz.func52, Tryz.ntmps52
  go_wp2_with fail
  refine (Tryz.strings_Contains_one s 32 _).mono ?_
  rintro e w' ⟨rfl, hw⟩
  subst hw
  rw [show decide (0 ≤ Lib.indexByte s.data.toList 32) = false from H.out]
  go_wp2_with fail
  refine (Tryz.strings_Contains wordsT _ _ _ wordsT_size hm).mono ?_
  rintro e w' ⟨rfl, hw⟩
  subst hw
  rw [known_is s H.out]
  go_wp2
  go_ret
  exact ⟨rfl, rfl⟩

theorem known_mem (s : ByteArray) (h : knownB s = true) : s.data.toList ∈ wordsB.map (fun x => x.data.toList) := by
  unfold knownB at h
  obtain ⟨x, hx, hq⟩ := List.any_eq_true.1 h
  rw [← of_decide_eq_true hq]
  exact List.mem_map_of_mem hx

theorem known_any (s : ByteArray) (w : World) (hw0 : MaxCell w) (hs : s.size ≤ 4611686018427387904) :
    Calls Tryz.prog 52 #[.string s] w fun e w' => e = .returned (.bool (knownB s)) ∧ w = w' := by
  by_cases h0 : s.size = 0
  · have e : knownB s = false := by
      refine Bool.eq_false_iff.2 fun h => ?_
      have hm := known_mem s h
      have hl : s.data.toList = [] := List.length_eq_zero_iff.1 (by simpa using h0)
      rw [hl] at hm
      exact absurd hm (by decide +kernel)
    rw [e]
    exact known_empty s w h0
  · cases h : spaceB s
    · exact known_full s w hw0 hs (by omega) h
    · have e : knownB s = false := by
        refine Bool.eq_false_iff.2 fun hk => ?_
        have hm := words_noSpace _ (known_mem s hk)
        have h1 := of_decide_eq_true h
        obtain ⟨o, ho⟩ := Int.eq_ofNat_of_zero_le h1
        have h2 := (Lib.indexByte_some ho).1
        exact hm 32 (List.mem_of_getElem? h2) rfl
      rw [e]
      exact known_space s w hs (by omega) h

end Go.Proofs.YthhjepgcbfmfeaaGreatDoor

namespace Go.Proofs.YthhjepgcbfmfeaaGreatDoor
open Go.RowKit

def frAt (L : List Rn) (i : Nat) : Nat := match L[i]? with | some x => x.fr | none => 0
def toAt (L : List Rn) (i : Nat) : Nat := match L[i]? with | some x => x.to | none => 0
def lineAt (L : List Rn) (i : Nat) : Int := match L[i]? with | some x => x.line | none => 0
def colAt (L : List Rn) (i : Nat) : Int := match L[i]? with | some x => x.col | none => 0
theorem at_some {L : List Rn} {i : Nat} {x : Rn} (h : L[i]? = some x) : rAt L i = x.r ∧ frAt L i = x.fr ∧ toAt L i = x.to ∧ lineAt L i = x.line ∧ colAt L i = x.col := by
  unfold rAt frAt toAt lineAt colAt; rw [h]; exact ⟨rfl, rfl, rfl, rfl, rfl⟩

/-- the text of so many runes from a place on -/
def txt (s : ByteArray) (L : List Rn) (i n : Nat) : ByteArray := s.extract (frAt L i) (toAt L (i + (n - 1)))

def wordErr (t : ByteArray) : Int := if knownB t then 0 else if hasGreatB t then 1 else if 16 < t.size then 3 else 0
def wordKind (t : ByteArray) : Int := if knownB t then 2 else 1
def restB (c : Int) : Bool := decide (c ≠ 10 ∧ c ≠ -1)

structure Res where
  er : Int
  line : Int
  col : Int
  i : Nat
  T : List Tk

def wordN (L : List Rn) (i : Nat) : Nat := rowE innerB L i - i
def numN (L : List Rn) (i : Nat) : Nat := rowE digitB L (i + 1) - i
def wordT (s : ByteArray) (L : List Rn) (i : Nat) (T : List Tk) : Res :=
  ⟨wordErr (txt s L i (wordN L i)), lineAt L i, colAt L i, i + wordN L i, T ++ [⟨wordKind (txt s L i (wordN L i)), txt s L i (wordN L i), 0, lineAt L i, colAt L i⟩]⟩
def numVal (s : ByteArray) (L : List Rn) (i : Nat) : Int × Bool := valN (txt s L i (numN L i)) (decide (rAt L i = 45))
def numbT (s : ByteArray) (L : List Rn) (i : Nat) (T : List Tk) : Res :=
  ⟨if (numVal s L i).2 then 0 else 2, lineAt L i, colAt L i, i + numN L i, T ++ [⟨3, txt s L i (numN L i), (numVal s L i).1, lineAt L i, colAt L i⟩]⟩
def signT (s : ByteArray) (L : List Rn) (i : Nat) (T : List Tk) : Res :=
  if signN (rAt L i) (rAt L (i + 1)) = 0 then ⟨1, lineAt L i, colAt L i, i, T⟩
  else ⟨0, 0, 0, i + signN (rAt L i) (rAt L (i + 1)), T ++ [⟨4, txt s L i (signN (rAt L i) (rAt L (i + 1))), 0, lineAt L i, colAt L i⟩]⟩
def restT (L : List Rn) (i : Nat) (T : List Tk) : Res :=
  if rowE restB L i < L.length ∧ rAt L (rowE restB L i) = -1 then ⟨1, lineAt L (rowE restB L i), colAt L (rowE restB L i), rowE restB L i, T⟩ else ⟨0, 0, 0, rowE restB L i, T⟩
def isNum (L : List Rn) (i : Nat) : Bool := digitB (rAt L i) || (decide (rAt L i = 45) && digitB (rAt L (i + 1)))
def tokT (s : ByteArray) (L : List Rn) (i : Nat) (T : List Tk) : Res :=
  if letterB (rAt L i) then wordT s L i T else if isNum L i then numbT s L i T else signT s L i T
def capT (L : List Rn) (i : Nat) (r : Res) : Res := if r.er ≠ 0 then r else if 4096 < r.T.length then { r with er := 3, line := lineAt L i, col := colAt L i } else r
def oneT (s : ByteArray) (L : List Rn) (i : Nat) (T : List Tk) : Res :=
  if blankB (rAt L i) then ⟨0, 0, 0, i + 1, T⟩ else if rAt L i = 35 then restT L i T else capT L i (tokT s L i T)
def runT (s : ByteArray) (L : List Rn) : Nat → Nat → List Tk → Res
  | 0, i, T => ⟨0, 0, 0, i, T⟩
  | k + 1, i, T => if i < L.length then (if (oneT s L i T).er ≠ 0 then oneT s L i T else runT s L k (oneT s L i T).i (oneT s L i T).T) else ⟨0, 0, 0, i, T⟩

/-- a fault as a value: nothing is wrong, or what and where -/
def faultV (er line col : Int) : Value := if er = 0 then .agg #[.int .i64 0, .int .i64 0, .int .i64 0] else .agg #[.int .i64 er, .int .i64 line, .int .i64 col]
theorem faultV_ok (l c : Int) : faultV 0 l c = .agg #[.int .i64 0, .int .i64 0, .int .i64 0] := rfl
theorem faultV_no {er l c : Int} (h : er ≠ 0) : faultV er l c = .agg #[.int .i64 er, .int .i64 l, .int .i64 c] := if_neg h

/-- what a step leaves: it has answered what is wrong, and the reader is where it is to be -/
def Stepped (w : World) (B b : Nat) (s : ByteArray) (L : List Rn) (lv : Value) (r : Res) (e : Ending) (w' : World) : Prop :=
  e = .returned (faultV r.er r.line r.col) ∧ ∃ ov, Took w w' B b s L lv r.i ov r.T

/-- a fault in a block of its own -/
def FltAt (w : World) (b : Nat) (er line col : Int) : Prop := w.heap[b]? = some (.cells #[.int .i64 er, .int .i64 line, .int .i64 col] 31 (0, 0))
theorem FltAt.facts {w : World} {b : Nat} {er line col : Int} (h : FltAt w b er line col) :
    w.cell? ⟨b, 0, none⟩ = some (.int .i64 er) ∧ w.cell? ⟨b, 1, none⟩ = some (.int .i64 line) ∧ w.cell? ⟨b, 2, none⟩ = some (.int .i64 col) ∧ w.frozen? ⟨b, 0, none⟩ = false ∧ w.frozen? ⟨b, 1, none⟩ = false ∧ w.frozen? ⟨b, 2, none⟩ = false := by
  unfold FltAt at h
  refine ⟨?_, ?_, ?_, ?_, ?_, ?_⟩
  · simp [World.cell?, h]
  · simp [World.cell?, h]
  · simp [World.cell?, h]
  · simp [World.frozen?, h]
  · simp [World.frozen?, h]
  · simp [World.frozen?, h]
theorem FltAt.stored {w : World} {b : Nat} {er line col : Int} (h : FltAt w b er line col) (e' l' c' : Int) : FltAt (((w.setCell ⟨b, 0, none⟩ (.int .i64 e')).setCell ⟨b, 1, none⟩ (.int .i64 l')).setCell ⟨b, 2, none⟩ (.int .i64 c')) b e' l' c' := by
  have h1 := heap_setCell_same w b 0 _ _ (.int .i64 e') h
  have h2 := heap_setCell_same _ b 1 _ _ (.int .i64 l') h1
  have h3 := heap_setCell_same _ b 2 _ _ (.int .i64 c') h2
  exact h3
theorem FltAt.lt {w : World} {b : Nat} {er line col : Int} (h : FltAt w b er line col) : b < w.heap.size := (Array.getElem?_eq_some_iff.1 h).1
theorem FltAt.below {w w' : World} {b B : Nat} {er line col : Int} (h : FltAt w b er line col) (hb : Below B w w') (hB : b < B) : FltAt w' b er line col := (hb.block b hB).trans h
theorem FltAt.took {w w' : World} {B b k : Nat} {s : ByteArray} {L : List Rn} {lv : Value} {i : Nat} {ov : Value} {T : List Tk} {er line col : Int} (h : FltAt w k er line col) (ht : Took w w' B b s L lv i ov T) (hkb : k ≠ b) : FltAt w' k er line col :=
  ht.kept k _ h (fun e => hkb (Option.some.inj e)) (fun c fz e => by simp at e)
theorem FltAt.alloc {w : World} {k : Nat} {er line col : Int} (h : FltAt w k er line col) (o : Obj) : FltAt (w.alloc o) k er line col := (Below.heap_alloc _ _ _ h.lt).trans h
theorem FltAt.setOther {w : World} {k g j : Nat} {er line col : Int} (h : FltAt w k er line col) (hne : g ≠ k) (u : Value) : FltAt (w.setCell ⟨g, j, none⟩ u) k er line col := (Below.heap_setCell _ _ _ _ (by show k ≠ g; omega)).trans h
theorem FltAt.drewN {w : World} {k : Nat} {er line col : Int} (h : FltAt w k er line col) (n : Nat) : FltAt (w.drewN n) k er line col := h
theorem FltAt.ne_row {w : World} {k base sz n g cap : Nat} {e : TypeId} {er line col : Int} {xs : List Value} (h : FltAt w k er line col) (ho : w.ownsRow base e sz (.slice (some ⟨g, 0, none⟩) n cap) n xs) (hne : 31 ≠ e) : g ≠ k := by
  intro e'
  subst e'
  exact owns_ne_block ho h hne rfl
theorem FltAt.new (w : World) (er line col : Int) : FltAt (w.alloc (.cells #[.int .i64 er, .int .i64 line, .int .i64 col] 31)) w.heap.size er line col := heap_alloc_new w _

theorem Took.of_rd {w : World} {B b : Nat} {s : ByteArray} {L : List Rn} {lv : Value} {i : Nat} {ov : Value} {T : List Tk} (h : Rd w B b s L lv i ov T) : Took w w B b s L lv i ov T :=
  ⟨h, Below.refl _ _, Lib.OthersKept.refl _ _ _⟩
theorem kept_of_below {t : TypeId} {b : Option Nat} {w w' : World} (h : Below w.heap.size w w') : Lib.OthersKept t b w w' :=
  fun k _ hk _ _ => (h.block k (Array.getElem?_eq_some_iff.1 hk).1).trans hk
theorem Took.after {w w1 w' : World} {B b : Nat} {s : ByteArray} {L : List Rn} {lv : Value} {i : Nat} {ov : Value} {T : List Tk} (h : Took w1 w' B b s L lv i ov T) (hb : Below w.heap.size w w1) (hB : B ≤ w.heap.size) : Took w w' B b s L lv i ov T :=
  ⟨h.rd, (hb.mono hB).trans h.low, (kept_of_below hb).trans h.kept⟩
theorem Took.then {w w1 w' : World} {B b : Nat} {s : ByteArray} {L : List Rn} {lv : Value} {i : Nat} {ov : Value} {T : List Tk} (h : Took w w1 B b s L lv i ov T) (hb : Below w1.heap.size w1 w') (hB : B ≤ w.heap.size) : Took w w' B b s L lv i ov T :=
  ⟨h.rd.keep hb, h.low.trans (hb.mono (Nat.le_trans hB h.low.size)), h.kept.trans (kept_of_below hb)⟩

/-- a row of another type stands behind a store into a block that is none of its own -/
theorem owns_setCell {w : World} {base : Nat} {e t : TypeId} {sz : Nat} {v : Value} {n k : Nat} {xs : List Value} {cs : Array Value} {fr : Nat × Nat} (h : w.ownsRow base e sz v n xs) (hk : w.heap[k]? = some (.cells cs t fr)) (hne : t ≠ e) (j : Nat) (u : Value) :
    (w.setCell ⟨k, j, none⟩ u).ownsRow base e sz v n xs := by
  have hnb := owns_ne_block h hk hne
  refine ⟨h.1, ?_⟩
  rcases h.2 with hn | ⟨g, cap, cur, hv, hBg, hgg, r⟩
  · exact .inl hn
  · exact .inr ⟨g, cap, cur, hv, hBg, (Below.heap_setCell _ _ _ _ (by show g ≠ k; intro e'; exact hnb (by rw [hv, e']; rfl))).trans hgg, r⟩

/-- a store into a block that the step itself made, and that is neither the reader nor a row -/
theorem Took.setNew {w w' : World} {B b : Nat} {s : ByteArray} {L : List Rn} {lv : Value} {i : Nat} {ov : Value} {T : List Tk} (h : Took w w' B b s L lv i ov T) {k : Nat} (hk : w.heap.size ≤ k) (hb : b < w.heap.size) (hB : B ≤ w.heap.size)
    {cs : Array Value} {t : TypeId} {fr : Nat × Nat} (ho : w'.heap[k]? = some (.cells cs t fr)) (h1 : t ≠ 54) (h2 : t ≠ 89) (j : Nat) (u : Value) : Took w (w'.setCell ⟨k, j, none⟩ u) B b s L lv i ov T := by
  refine ⟨⟨?_, h.rd.low, owns_setCell h.rd.run ho h2 j u, owns_setCell h.rd.out ho h1 j u⟩, h.low.setCell (p := ⟨k, j, none⟩) (by show B ≤ k; omega) _, ?_⟩
  · rw [Below.heap_setCell _ _ _ _ (by show b ≠ k; omega)]; exact h.rd.blk
  · intro q o hq hqb hqo
    rw [Below.heap_setCell _ _ _ _ (by show q ≠ k; have := (Array.getElem?_eq_some_iff.1 hq).1; omega)]
    exact h.kept q o hq hqb hqo
theorem Took.stored {w w' : World} {B b : Nat} {s : ByteArray} {L : List Rn} {lv : Value} {i : Nat} {ov : Value} {T : List Tk} (h : Took w w' B b s L lv i ov T) {k : Nat} (hk : w.heap.size ≤ k) (hb : b < w.heap.size) (hB : B ≤ w.heap.size)
    {er line col : Int} (ho : FltAt w' k er line col) (e' l' c' : Int) : Took w (((w'.setCell ⟨k, 0, none⟩ (.int .i64 e')).setCell ⟨k, 1, none⟩ (.int .i64 l')).setCell ⟨k, 2, none⟩ (.int .i64 c')) B b s L lv i ov T := by
  have h1 := heap_setCell_same w' k 0 _ _ (.int .i64 e') ho
  have h2 := heap_setCell_same _ k 1 _ _ (.int .i64 l') h1
  exact ((h.setNew hk hb hB ho (by decide) (by decide) 0 _).setNew hk hb hB h1 (by decide) (by decide) 1 _).setNew hk hb hB h2 (by decide) (by decide) 2 _

theorem owns_setIn {w : World} {base : Nat} {e : TypeId} {sz n g cap : Nat} {xs : List Value} (h : w.ownsRow base e sz (.slice (some ⟨g, 0, none⟩) n cap) n xs) (j : Nat) (u : Value) (_hj : j < n * sz) :
    (w.setCell ⟨g, j, none⟩ u).ownsRow base e sz (.slice (some ⟨g, 0, none⟩) n cap) n (xs.set j u) := by
  refine ⟨by rw [List.length_set]; exact h.1, ?_⟩
  rcases h.2 with ⟨e, _⟩ | ⟨g', cap', cur, hv, hBg, hgg, a, b, c, d⟩
  · simp at e
  · simp only [Value.slice.injEq, Option.some.injEq, Addr.mk.injEq, true_and, and_true] at hv
    obtain ⟨rfl, rfl⟩ := hv
    refine .inr ⟨g, cap, cur.setIfInBounds j u, rfl, hBg, heap_setCell_same w g j cur e u hgg, a, b, by simpa using c, ?_⟩
    rw [← d, Array.toList_setIfInBounds, List.take_set]

/-- a store into the last token -/
theorem Took.setTok {w w' : World} {B b g cap : Nat} {s : ByteArray} {L : List Rn} {lv : Value} {i : Nat} {T : List Tk} {x y : Tk} {j : Nat} {u : Value} (h : Took w w' B b s L lv i (.slice (some ⟨g, 0, none⟩) (T.length + 1) cap) (T ++ [x]))
    (hj : j < 5) (hy : (tkCells x).set j u = tkCells y) : Took w (w'.setCell ⟨g, T.length * 5 + j, none⟩ u) B b s L lv i (.slice (some ⟨g, 0, none⟩) (T.length + 1) cap) (T ++ [y]) := by
  have ho := h.rd.out
  rw [show (T ++ [x]).length = T.length + 1 by simp] at ho
  have hgB := (ho.lt g rfl).1
  have hgg : ∃ cs, w'.heap[g]? = some (.cells cs 54 (0, 0)) := by
    rcases ho.2 with ⟨e, _⟩ | ⟨g', cap', cur, hv, _, hg, _⟩
    · simp at e
    · simp only [Value.slice.injEq, Option.some.injEq, Addr.mk.injEq, true_and, and_true] at hv
      obtain ⟨rfl, _⟩ := hv
      exact ⟨_, hg⟩
  obtain ⟨cs, hgg⟩ := hgg
  have hgb : g ≠ b := by
    intro e
    have := h.rd.blk
    rw [← e, hgg] at this
    simp at this
  refine ⟨⟨?_, h.rd.low, owns_setCell h.rd.run hgg (by decide) _ u, ?_⟩, h.low.setCell (p := ⟨g, T.length * 5 + j, none⟩) hgB _, ?_⟩
  · rw [Below.heap_setCell _ _ _ _ (by show b ≠ g; omega)]; exact h.rd.blk
  · rw [show (T ++ [y]).length = T.length + 1 by simp]
    rw [← tkFlat_last T j x y u hj hy]
    exact owns_setIn ho _ u (by omega)
  · intro q o hq hqb hqo
    rw [Below.heap_setCell _ _ _ _ (by show q ≠ g; intro e; subst e; have h9 := h.kept q o hq hqb hqo; rw [hgg] at h9; exact hqo _ _ (Option.some.inj h9).symm)]
    exact h.kept q o hq hqb hqo

theorem Took.last {w w' : World} {B b g cap : Nat} {s : ByteArray} {L : List Rn} {lv : Value} {i : Nat} {T : List Tk} {x : Tk} (h : Took w w' B b s L lv i (.slice (some ⟨g, 0, none⟩) (T.length + 1) cap) (T ++ [x])) :
    w'.cell? ⟨g, T.length * 5, none⟩ = some (.int .i64 x.kind) ∧ w'.cell? ⟨g, T.length * 5 + 1, none⟩ = some (.string x.text) ∧ w'.cell? ⟨g, T.length * 5 + 2, none⟩ = some (.int .i64 x.num) ∧
      w'.frozen? ⟨g, T.length * 5, none⟩ = false ∧ w'.frozen? ⟨g, T.length * 5 + 2, none⟩ = false ∧ g < w'.heap.size ∧ ∀ k er l c, FltAt w' k er l c → g ≠ k := by
  have ho := h.rd.out
  rw [List.length_append, List.length_singleton] at ho
  have hx : (T ++ [x])[T.length]? = some x := by simp
  exact ⟨(World.ownsRow.cellAt ho (T.length * 5) (by omega)).trans (tkFlat_get _ T.length 0 x hx (by omega)), (World.ownsRow.cellAt ho (T.length * 5 + 1) (by omega)).trans (tkFlat_get _ T.length 1 x hx (by omega)),
    (World.ownsRow.cellAt ho (T.length * 5 + 2) (by omega)).trans (tkFlat_get _ T.length 2 x hx (by omega)), World.ownsRow.frozenAt ho _, World.ownsRow.frozenAt ho _, (ho.lt g rfl).2, fun k _ _ _ hf => hf.ne_row ho (by decide)⟩

end Go.Proofs.YthhjepgcbfmfeaaGreatDoor
