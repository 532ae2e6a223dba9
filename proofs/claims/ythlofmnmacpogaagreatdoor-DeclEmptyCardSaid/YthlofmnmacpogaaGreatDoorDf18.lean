/- The law DeclEmpty. -/
import Derived.Test.YthlofmnmacpogaaGreatDoorDf12
import Derived.Test.YthlofmnmacpogaaGreatDoorDf16
import Derived.Test.YthlofmnmacpogaaGreatDoorDf17

namespace Go.Proofs.YthlofmnmacpogaaGreatDoor
open Go.RowKit

theorem ext_one (note : ByteArray) (k : Nat) (h : k < note.size) : (note.extract k (k + 1)).data.toList = [note[k]] := by
  have h2 : k < note.data.toList.length := by rw [ba_len]; exact h
  rw [ByteArray.data_extract, Array.toList_extract, List.extract_eq_take_drop, List.drop_eq_getElem_cons h2, Nat.add_sub_cancel_left, List.take_succ_cons, List.take_zero]
  rfl

/-- a text of blanks and a note has no statements -/
theorem empty_read (bl s : ByteArray) (hb : bl = ⟨#[32]⟩ ∨ bl = ⟨#[10]⟩ ∨ bl = ⟨#[9]⟩ ∨ bl = ⟨#[13, 10]⟩) (hl : s.size ≤ 200) (hs : ∀ b ∈ s.data.toList, 32 ≤ b.toNat ∧ b.toNat < 127) :
    readD (bl ++ ⟨#[35, 32]⟩ ++ s ++ ⟨#[10]⟩ ++ bl) = .ok [] := by
  have hP : (bl ++ ⟨#[35, 32]⟩ ++ s ++ ⟨#[10]⟩ ++ bl : ByteArray).data.toList = bl.data.toList ++ ([35, 32] ++ (s.data.toList ++ (10 :: bl.data.toList))) := by
    simp [ByteArray.data_append]
  have h := empty_tok hP (by
    intro b hb1
    rcases hb with rfl | rfl | rfl | rfl
    · obtain rfl : b = 32 := by simpa using hb1
      decide
    · obtain rfl : b = 10 := by simpa using hb1
      decide
    · obtain rfl : b = 9 := by simpa using hb1
      decide
    · have : b = 13 ∨ b = 10 := by simpa using hb1
      rcases this with rfl | rfl <;> decide) hs (by
    rw [ba_len, ba_len]
    have : bl.size ≤ 2 := by rcases hb with rfl | rfl | rfl | rfl <;> decide
    omega)
  unfold readD
  rw [h]
  rfl
theorem read_none {w : World} (hm : MaxCell w) (bl s : ByteArray) (hb : bl = ⟨#[32]⟩ ∨ bl = ⟨#[10]⟩ ∨ bl = ⟨#[9]⟩ ∨ bl = ⟨#[13, 10]⟩) (hl : s.size ≤ 200) (hs : ∀ b ∈ s.data.toList, 32 ≤ b.toNat ∧ b.toNat < 127) :
    ∀ W, Below w.heap.size w W → Calls Tryz.prog 8 #[.string (bl ++ ⟨#[35, 32]⟩ ++ s ++ ⟨#[10]⟩ ++ bl)] W fun e W' => ∃ ad cap, e = .returned (.tuple #[.slice ad 0 cap, .agg #[.int .i64 0, .int .i64 0, .int .i64 0]]) ∧ Below W.heap.size W W' := by
  intro W hW
  have HZ : 0 < w.heap.size := by obtain ⟨m, hm⟩ := hm; exact World.block_lt_of_cell? w _ hm
  refine (dread_any _ W (hm.below hW HZ) ?_).mono ?_
  · have : bl.size ≤ 2 := by rcases hb with rfl | rfl | rfl | rfl <;> decide
    simp only [ByteArray.size_append]
    show bl.size + 2 + s.size + 1 + bl.size ≤ 4294967200
    omega
  · rw [empty_read bl s hb hl hs]
    rintro e W' ⟨l, v, hl0, rfl, hr, hb2⟩
    obtain rfl : l = [] := List.map_eq_nil_iff.1 hl0
    obtain ⟨ad, cap, rfl⟩ := owns_len hr.row
    exact ⟨ad, cap, rfl, hb2⟩
theorem u64_four (n : Int) : ∃ m : Int, IntKind.u64.wrap n = m ∧ n % 18446744073709551616 = m ∧ 0 ≤ m ∧ m ≤ 18446744073709551615 ∧ (Int.tmod m 4 = 0 ∨ Int.tmod m 4 = 1 ∨ Int.tmod m 4 = 2 ∨ Int.tmod m 4 = 3) := by
  have h0 : 0 ≤ n % 18446744073709551616 := Int.emod_nonneg _ (by decide)
  refine ⟨n % 18446744073709551616, by rw [IntKind.wrap_u64], rfl, h0, by omega, ?_⟩
  rw [Int.tmod_eq_emod_of_nonneg h0]
  omega

set_option maxRecDepth 100000 in
set_option maxHeartbeats 40000000 in
theorem lawEmpty_any (n : Int) (note : ByteArray) (w : World) (hm : MaxCell w) (h1 : -9223372036854775808 ≤ n) (h2 : n ≤ 9223372036854775807) (_hs : note.size ≤ 140737488351232) :
    Calls Tryz.prog 6 #[.int .i64 n, .string note] w fun e w' => e = .returned (.bool true) ∧ Below w.heap.size w w' := by
  have HM := Lib.hid hm
  have HN := Lib.hid (And.intro h1 h2)
  have HZ : Hid (0 < w.heap.size) := by obtain ⟨m, hm⟩ := hm; exact World.block_lt_of_cell? w _ hm
  clear hm h1 h2
  go_enter Tryz.func6, Tryz.ntmps6
  go_wp2
  go_loopw [5, 6] (fun v5 v6 wr => ∃ (k : Nat) (s : ByteArray), v5 = .string s ∧ v6 = .int .i64 k ∧ k ≤ note.size ∧ wr = w ∧ Hid (s.size ≤ k ∧ k ≤ 200 ∧ ∀ b ∈ s.data.toList, 32 ≤ b.toNat ∧ b.toNat < 127)) (fun _ v6 _ => note.size - (intOf v6).toNat)
  case atStart => exact ⟨0, ⟨#[]⟩, rfl, rfl, Nat.zero_le _, rfl, Nat.le_refl _, by omega, fun b h => by simp at h⟩
  case round =>
    obtain ⟨k, s, rfl, rfl, hk, rfl, HS⟩ := hrel
    have hk2 := HS.out.2.1
    by_cases hgo : k < note.size ∧ k < 200
    · obtain ⟨hlt, h200⟩ := hgo
      have hz1 : (k : Int) < (note.size : Int) := by omega
      have hz2 : (k : Int) < 200 := by omega
      have hz0 : (0 : Int) ≤ (k : Int) := by omega
      have hss := HS.out.1
      have hov : ¬ 9223372036854775807 < s.size + (min (k + 1) note.size - k) := by omega
      by_cases c1 : (32 : Int) ≤ (note[k].toNat : Int)
      · by_cases c2 : (note[k].toNat : Int) < 127
        · have HNEW : Hid ((s ++ note.extract k (k + 1)).size ≤ k + 1 ∧ k + 1 ≤ 200 ∧ ∀ b ∈ (s ++ note.extract k (k + 1)).data.toList, 32 ≤ b.toNat ∧ b.toNat < 127) := by
            refine ⟨?_, by omega, fun b hb => ?_⟩
            · rw [← ba_len, ByteArray.data_append, Array.toList_append, ext_one note k hlt, List.length_append, ba_len]; simp; omega
            · rw [ByteArray.data_append, Array.toList_append, ext_one note k hlt] at hb
              rcases List.mem_append.1 hb with h | h
              · exact HS.out.2.2 b h
              · obtain rfl := List.mem_singleton.1 h
                omega
          go_wp2
          go_roundw
          case rel => exact ⟨k + 1, _, rfl, by go_num, hlt, trivial, HNEW⟩
          case measure => simp [intOf]; omega
        · have HNEW : Hid (s.size ≤ k + 1 ∧ k + 1 ≤ 200 ∧ ∀ b ∈ s.data.toList, 32 ≤ b.toNat ∧ b.toNat < 127) := ⟨by omega, by omega, HS.out.2.2⟩
          go_wp2
          go_roundw
          case rel => exact ⟨k + 1, _, rfl, by go_num, hlt, trivial, HNEW⟩
          case measure => simp [intOf]; omega
      · have HNEW : Hid (s.size ≤ k + 1 ∧ k + 1 ≤ 200 ∧ ∀ b ∈ s.data.toList, 32 ≤ b.toNat ∧ b.toNat < 127) := ⟨by omega, by omega, HS.out.2.2⟩
        go_wp2
        go_roundw
        case rel => exact ⟨k + 1, _, rfl, by go_num, hlt, trivial, HNEW⟩
        case measure => simp [intOf]; omega
    · have hs0 := HS.out.1
      have HC0 := Lib.hid (read_none (w := wr) HM.out ⟨#[32]⟩ s (by simp) (by have := HS.out.1; have := HS.out.2.1; omega) HS.out.2.2)
      have HC1 := Lib.hid (read_none (w := wr) HM.out ⟨#[10]⟩ s (by simp) (by have := HS.out.1; have := HS.out.2.1; omega) HS.out.2.2)
      have HC2 := Lib.hid (read_none (w := wr) HM.out ⟨#[9]⟩ s (by simp) (by have := HS.out.1; have := HS.out.2.1; omega) HS.out.2.2)
      have HC3 := Lib.hid (read_none (w := wr) HM.out ⟨#[13, 10]⟩ s (by simp) (by have := HS.out.1; have := HS.out.2.1; omega) HS.out.2.2)
      have g1 : ¬ 9223372036854775807 < 3 + s.size := by omega
      have g2 : ¬ 9223372036854775807 < 3 + s.size + 1 := by omega
      have g3 : ¬ 9223372036854775807 < 3 + s.size + 1 + 1 := by omega
      have g4 : ¬ 9223372036854775807 < 1 + 2 + s.size := by omega
      have g5 : ¬ 9223372036854775807 < 1 + 2 + s.size + 1 := by omega
      have g6 : ¬ 9223372036854775807 < 1 + 2 + s.size + 1 + 1 := by omega
      have g7 : ¬ 9223372036854775807 < 4 + s.size := by omega
      have g8 : ¬ 9223372036854775807 < 4 + s.size + 1 := by omega
      have g9 : ¬ 9223372036854775807 < 4 + s.size + 1 + 2 := by omega
      have ga : ¬ 9223372036854775807 < 2 + 2 + s.size := by omega
      have gb : ¬ 9223372036854775807 < 2 + 2 + s.size + 1 := by omega
      have gc : ¬ 9223372036854775807 < 2 + 2 + s.size + 1 + 2 := by omega
      obtain ⟨m, e0, e1, hm0, hm1, e2⟩ := u64_four n
      have hzz : (¬ ((k : Int) < (note.size : Int))) ∨ (((k : Int) < (note.size : Int)) ∧ ¬ ((k : Int) < 200)) := by omega
      have HBA := Lib.hid (((Below.refl wr.heap.size wr).alloc (Nat.le_refl _) (.cells #[.string ⟨#[32]⟩, .string ⟨#[10]⟩, .string ⟨#[9]⟩, .string ⟨#[13, 10]⟩] 42)).drew)
      have HBB := Lib.hid ((((Below.refl wr.heap.size wr).alloc (Nat.le_refl _) (.cells #[.string ⟨#[32]⟩, .string ⟨#[10]⟩, .string ⟨#[9]⟩, .string ⟨#[13, 10]⟩] 42)).alloc (by simp) (.cells #[.int .i64 0, .int .i64 0, .int .i64 0] 28)).drew)
      have HFB : Hid (FtB ((wr.alloc (.cells #[.string ⟨#[32]⟩, .string ⟨#[10]⟩, .string ⟨#[9]⟩, .string ⟨#[13, 10]⟩] 42)).alloc (.cells #[.int .i64 0, .int .i64 0, .int .i64 0] 28)).drew (wr.heap.size + 1) 0 0 0) := by
        have e := heap_alloc_new (wr.alloc (.cells #[.string ⟨#[32]⟩, .string ⟨#[10]⟩, .string ⟨#[9]⟩, .string ⟨#[13, 10]⟩] 42)) (.cells #[.int .i64 0, .int .i64 0, .int .i64 0] 28)
        rw [show (wr.alloc (.cells #[.string ⟨#[32]⟩, .string ⟨#[10]⟩, .string ⟨#[9]⟩, .string ⟨#[13, 10]⟩] 42)).heap.size = wr.heap.size + 1 by simp] at e
        exact Lib.hid e
      rcases hzz with hz1 | ⟨hz1, hz2⟩
      all_goals
        rcases e2 with e2 | e2 | e2 | e2
        all_goals
          go_upto_region 9 with fail
          go_cut [9, 10] (fun v9 v10 wx => ∃ (ad : Option Addr) (cap bf : Nat), v9 = .slice ad 0 cap ∧ v10 = .pointer (some ⟨bf, 0, none⟩) ∧ Hid (FtB wx bf 0 0 0 ∧ Below wr.heap.size wr wx))
          case first =>
            go_region_law (first
              | (go_simp; go_at_call 8; first | (with_reducible refine (HC0.out _ HBA.out).mono ?_) | (with_reducible refine (HC1.out _ HBA.out).mono ?_) | (with_reducible refine (HC2.out _ HBA.out).mono ?_) | (with_reducible refine (HC3.out _ HBA.out).mono ?_)
                 rintro en w2 ⟨ad, cap, rfl, hb2⟩
                 have HFIN := Lib.hid (show FtB (w2.alloc (.cells #[.int .i64 0, .int .i64 0, .int .i64 0] 28)) w2.heap.size 0 0 0 ∧ Below wr.heap.size wr (w2.alloc (.cells #[.int .i64 0, .int .i64 0, .int .i64 0] 28)) from ⟨heap_alloc_new w2 _, (HBA.out.trans (hb2.mono HBA.out.size)).alloc (Nat.le_trans HBA.out.size hb2.size) _⟩)
                 clear hb2)
              | (go_simp; go_at_call 8; first | (with_reducible refine (HC0.out _ HBB.out).mono ?_) | (with_reducible refine (HC1.out _ HBB.out).mono ?_) | (with_reducible refine (HC2.out _ HBB.out).mono ?_) | (with_reducible refine (HC3.out _ HBB.out).mono ?_)
                 rintro en w2 ⟨ad, cap, rfl, hb2⟩
                 have hfb := HFB.out.below hb2
                 obtain ⟨q0, q1, q2⟩ := hfb.facts
                 obtain ⟨z0, z1, z2⟩ := hfb.free
                 have HFIN := Lib.hid (And.intro (hfb.stored 0 0 0) (below_fault (HBB.out.trans (hb2.mono HBB.out.size)) (show wr.heap.size ≤ wr.heap.size + 1 by omega) (.int .i64 0) (.int .i64 0) (.int .i64 0)))
                 clear hb2 hfb))
            all_goals
              go_wp2_with fail
              go_meet
              exact ⟨_, _, _, rfl, rfl, HFIN.out⟩
          obtain ⟨ad, cap, bf, rfl, rfl, hcut⟩ := hcut
          obtain ⟨q0, q1, q2⟩ := hcut.out.1.facts
          have HM2 := Lib.hid (HM.out.below hcut.out.2 HZ.out)
          have HB2 := Lib.hid hcut.out.2
          clear hcut
          go_wp2_with fail
          refine (awake07 _ HM2.out).mono ?_
          rintro en w3 ⟨rfl, hb3⟩
          have HB3 := Lib.hid (HB2.out.trans (hb3.mono HB2.out.size))
          clear hb3
          go_wp2
          go_ret
          exact ⟨rfl, HB3.out⟩

end Go.Proofs.YthlofmnmacpogaaGreatDoor
