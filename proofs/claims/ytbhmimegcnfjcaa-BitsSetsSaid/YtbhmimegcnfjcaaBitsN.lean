import Derived.Test.YtbhmimegcnfjcaaBitsM
namespace Go.Proofs.Ytbhmimegcnfjcaa
open Go.RowKit

/-- a written list in new memory reads -/
theorem Reads.lit (w : World) (us : Array Value) (e : TypeId) (n cap : Nat) (hn : n = us.size) (hm : n ≤ maxLen) : Reads (w.alloc (.cells us e)) (.slice (some ⟨w.heap.size, 0, none⟩) n cap) us.toList := by
  refine .inr ⟨w.heap.size, 0, cap, by simp [hn], by simp, by simpa [hn] using hm, fun t x hx => ?_⟩
  rw [World.cell?_alloc_at _ _ _ _ rfl, Nat.zero_add]
  simpa using hx

theorem Reads.keep {w w' : World} {v : Value} {xs : List Value} (h : Reads w v xs) (hb : Below w.heap.size w w') : Reads w' v xs := h.below (Nat.le_refl _) hb

theorem ofL_02 : ofL [0, 2] = 5 := by decide +kernel
theorem listZ_5 : listZ 5 31 = [0, 2] := by decide +kernel
theorem first_3 : firstZ 3 = 7 := by decide +kernel

set_option maxHeartbeats 1000000 in
theorem awake14 (w : World) :
    Calls Try.prog 13 #[] w fun e w' => e = .returned (.bool true) ∧ Below w.heap.size w w' := by
  have H1 := Lib.hid ofL_02
  have H2 := Lib.hid listZ_5
  have H3 := Lib.hid first_3
  have hm : 2 ≤ maxLen := by unfold maxLen; omega
  have R1 : Hid (Reads (w.alloc (.cells #[.int .i64 0, .int .i64 2] 3)) (.slice (some ⟨w.heap.size, 0, none⟩) 2 2) (ints [0, 2])) := Reads.lit w #[.int .i64 0, .int .i64 2] 3 2 2 rfl hm
  have hB1 : Below w.heap.size w (w.alloc (.cells #[.int .i64 0, .int .i64 2] 3)) := (Below.refl _ _).alloc (Nat.le_refl _) _
  go_enter Try.func13, Try.ntmps13
  go_wp2_with fail
  refine (of_any _ [0, 2] _ R1.out).mono ?_
  rintro e w1 ⟨rfl, rfl⟩
  rw [H1.out]
  go_wp2_with fail
  refine (list_any 5 _).mono ?_
  rintro e w2 ⟨v, rfl, hown, hb⟩
  rw [H2.out] at hown
  have hB2 := hB1.trans (hb.mono (by simp))
  have HO := Lib.hid (Reads.of_owns hown); clear hown
  have HB := Lib.hid hB2; clear hB2 hB1 hb
  have R2 : Hid (Reads (w2.alloc (.cells #[.int .i64 0, .int .i64 2] 3)) (.slice (some ⟨w2.heap.size, 0, none⟩) 2 2) (ints [0, 2])) := Reads.lit w2 #[.int .i64 0, .int .i64 2] 3 2 2 rfl hm
  have R3 : Hid (Reads (w2.alloc (.cells #[.int .i64 0, .int .i64 2] 3)) v (ints [0, 2])) := HO.out.keep ((Below.refl _ _).alloc (Nat.le_refl _) _)
  go_wp2_with fail
  refine (same_eq _ _ [0, 2] _ R3.out R2.out).mono ?_
  rintro e w3 ⟨rfl, hb3⟩
  have HB3 : Hid (Below w.heap.size w w3) := ((HB.out.alloc HB.out.size _).trans (hb3.mono (by have := HB.out.size; simp; omega)))
  clear hb3
  go_wp2_with fail
  refine (first_any 3 _).mono ?_
  rintro e w' ⟨rfl, rfl⟩
  rw [H3.out]
  go_wp2
  go_ret
  exact ⟨rfl, HB3.out⟩

set_option maxHeartbeats 1000000 in
theorem bitsSets_any (s i : Int) (w : World) (hs0 : -9223372036854775808 ≤ s) (hs1 : s ≤ 9223372036854775807) :
    Calls Try.prog 4 #[.int .i64 s, .int .i64 i] w fun e w' => e = .returned (.bool true) ∧ Below w.heap.size w w' := by
  go_enter Try.func4, Try.ntmps4
  go_wp2_with fail
  refine (has_any s i _).mono ?_
  rintro e w' ⟨rfl, rfl⟩
  go_wp2_with fail
  refine (rhas_any s i _ hs0 hs1).mono ?_
  rintro e w' ⟨rfl, rfl⟩
  go_wp2_with fail
  refine (with_any s i _).mono ?_
  rintro e w' ⟨rfl, rfl⟩
  go_wp2_with fail
  refine (put_any s i true _ hs0 hs1).mono ?_
  rintro e w1 ⟨rfl, hb1⟩
  go_wp2_with fail
  refine (without_any s i _).mono ?_
  rintro e w' ⟨rfl, rfl⟩
  go_wp2_with fail
  refine (put_any s i false _ hs0 hs1).mono ?_
  rintro e w2 ⟨rfl, hb2⟩
  go_wp2_with fail
  refine (awake14 _).mono ?_
  rintro e w3 ⟨rfl, hb3⟩
  have hB := hb1.trans ((hb2.trans (hb3.mono hb2.size)).mono hb1.size)
  clear hb1 hb2 hb3
  go_wp2
  go_ret
  exact ⟨rfl, hB⟩

end Go.Proofs.Ytbhmimegcnfjcaa
