/- Contract of the law TokenRises. -/
import Derived.Test.YthbbbccefjemmaaDoorTokAwake
import Derived.Test.YthbbbccefjemmaaDoorRisePlain
namespace Go.Proofs.YthbbbccefjemmaaDoor
open Go.RowKit

theorem pairs {R : List Tk} {x y : Tk} {q : Nat} (h : R.Pairwise (fun x y => PLt x.line x.col y.line y.col)) (hx : R[q]? = some x) (hy : R[q + 1]? = some y) : PLt x.line x.col y.line y.col := by
  have h1 := (List.getElem?_eq_some_iff.1 hx)
  have h2 := (List.getElem?_eq_some_iff.1 hy)
  obtain ⟨a, rfl⟩ := h1
  obtain ⟨b, rfl⟩ := h2
  exact List.pairwise_iff_getElem.1 h q (q + 1) a b (by omega)

theorem text_some {t : ByteArray} (h : 0 < t.size) : (t.toList == []) = false := by
  rw [ByteArray.toList_eq]
  cases hq : t.data.toList with
  | nil => have : t.data.toList.length = 0 := by rw [hq]; rfl
           have h2 : t.data.toList.length = t.size := by simp
           omega
  | cons a r => rfl

set_option maxRecDepth 100000 in
set_option maxHeartbeats 16000000 in
theorem lawRises_any (s : ByteArray) (w : World) (hm : MaxCell w) (hs : s.size ≤ 140737488351232) :
    Calls Tryd.prog 6 #[.string s] w fun e w' => e = .returned (.bool true) ∧ Below w.heap.size w w' := by
  have HM := Lib.hid hm
  have HZ : Hid (0 < w.heap.size) := by obtain ⟨m, hm⟩ := hm; exact World.block_lt_of_cell? w _ hm
  by_cases hbig : 3000 < s.size
  · have hbz : (3000 : Int) < s.size := by omega
    clear hm
    go_enter Tryd.func6, Tryd.ntmps6
    go_wp2_with fail
    refine (awake_any _ HM.out).mono ?_
    rintro e w2 ⟨rfl, hb2⟩
    go_wp2
    go_ret
    exact ⟨rfl, hb2⟩
  · have hbz : (s.size : Int) ≤ 3000 := by omega
    by_cases he : (tokRes s).er = 0
    · obtain ⟨R, hT, hlen, hp, hk, ht⟩ := tokRes_rises s he
      have HT := Lib.hid hT
      have HE := Lib.hid he
      have HP := Lib.hid (And.intro hp (And.intro hk ht))
      clear hp hk ht he hT
      go_enter Tryd.func6, Tryd.ntmps6
      go_wp2_with fail
      refine (tokens_any s _ hm (by omega)).mono ?_
      rintro e w1 ⟨v, rfl, hown, hb1⟩
      rw [HT.out, List.length_append, List.length_singleton] at hown
      rw [HE.out, faultV_ok]
      obtain ⟨g, cap, rfl, hg, hgs⟩ := owns_shape hown (by omega)
      have HO := Lib.hid hown
      have HB1 := Lib.hid (hb1.alloc hb1.size (.cells #[.int .i64 0, .int .i64 0, .int .i64 0] 28))
      clear hown hb1 hm
      obtain ⟨N, hN⟩ : ∃ N, R.length + 1 = N := ⟨_, rfl⟩
      have HN := Lib.hid hN
      have hN1 : N ≤ 4097 := by omega
      have hN0 : (0 : Int) < N := by omega
      rw [hN]
      clear hN
      go_wp2
      go_loopw [5] (fun i wr => ∃ k n : Nat, i = .int .i64 k ∧ k ≤ N ∧ wr = (w1.alloc (.cells #[.int .i64 0, .int .i64 0, .int .i64 0] 28)).drewN n) (fun i _ => N - (intOf i).toNat)
      case atStart => exact ⟨0, 0, by go_num, by omega, rfl⟩
      case round =>
        obtain ⟨k, n, rfl, hk, rfl⟩ := hrel
        by_cases hlt : k < N
        · obtain ⟨x, hx⟩ : ∃ x, (R ++ [endTk s])[k]? = some x := ⟨_, List.getElem?_eq_getElem (by rw [List.length_append, List.length_singleton, HN.out]; exact hlt)⟩
          have HX := Lib.hid hx
          have cx := fun j (hj : j < 5) => (World.ownsRow.cellAt HO.out (k * 5 + j) (by rw [HN.out]; omega)).trans (tkFlat_get _ k j x hx hj)
          have x0 := cx 0 (by omega)
          have x1 := cx 1 (by omega)
          have x3 := cx 3 (by omega)
          have x4 := cx 4 (by omega)
          clear cx hx
          simp only [tkCells, List.getElem?_cons_succ, List.getElem?_cons_zero, Nat.add_zero] at x0 x1 x3 x4
          have hkz : (k : Int) < (N : Int) := by omega
          by_cases hlast : k + 1 = N
          · have hxe : x = endTk s := by
              have := HX.out
              rw [List.getElem?_append_right (by have := HN.out; omega)] at this
              rw [show k - R.length = 0 by have := HN.out; omega] at this
              simpa using this.symm
            have e0 : (x.kind == 5) = true := by rw [hxe]; rfl
            have e1 : (x.text.toList == []) = true := by rw [hxe]; show ((⟨#[]⟩ : ByteArray).toList == []) = true; rw [ByteArray.toList_eq]; rfl
            have hl : ((k : Int) == (N : Int) - 1) = true := by rw [beq_iff_eq]; omega
            clear hxe
            cases k with
            | zero =>
              simp only [Nat.zero_mul, Nat.zero_add] at x0 x1 x3 x4
              have hl2 : ((0 : Int) == (N : Int) - 1) = true := hl
              have h00 : decide ((0 : Int) < 0) = false := rfl
              rw [show ((0 : Nat) : Int) = 0 from rfl]
              clear hl
              go_wp2
              dsimp only [List.append]
              go_quiet (fail)
              go_wp2
              go_roundw
              case rel => exact ⟨1, _, by go_num, by omega, rfl⟩
              case measure => simp [intOf]; omega
            | succ q =>
              obtain ⟨y, hy⟩ : ∃ y, (R ++ [endTk s])[q]? = some y := ⟨_, List.getElem?_eq_getElem (by rw [List.length_append, List.length_singleton, HN.out]; omega)⟩
              have hpl := pairs HP.out.1 hy HX.out
              have cy := fun j (hj : j < 5) => (World.ownsRow.cellAt HO.out (q * 5 + j) (by rw [HN.out]; omega)).trans (tkFlat_get _ q j y hy hj)
              have y3 := cy 3 (by omega)
              have y4 := cy 4 (by omega)
              clear cy hy
              simp only [tkCells, List.getElem?_cons_succ, List.getElem?_cons_zero] at y3 y4
              have hqz : (q : Int) < (N : Int) := by omega
              rw [show ((q + 1 : Nat) : Int) = (q : Int) + 1 from rfl]
              have hl3 : ((q : Int) + 1 == (N : Int) - 1) = true := by rw [← hl]; rfl
              clear hl
              have hqt : ((q : Int) + 1).toNat = q + 1 := by omega
              unfold PLt at hpl
              have hl2 : decide (x.line < y.line) = false := decide_eq_false (by omega)
              have hq0 : decide ((0 : Int) < (q : Int) + 1) = true := decide_eq_true (by omega)
              by_cases hsame : x.line = y.line
              · have hsl : (x.line == y.line) = true := by rw [beq_iff_eq]; exact hsame
                have hc2 : decide (x.col ≤ y.col) = false := decide_eq_false (by omega)
                clear hpl hsame
                go_wp2
                dsimp only [List.append]
                go_quiet (fail)
                go_wp2
                go_roundw
                case rel => exact ⟨q + 1 + 1, _, by go_num, by omega, rfl⟩
                case measure => simp [intOf]; omega
              · have hsl : (x.line == y.line) = false := beq_eq_false_iff_ne.2 hsame
                clear hpl hsame
                go_wp2
                dsimp only [List.append]
                go_quiet (fail)
                go_wp2
                go_roundw
                case rel => exact ⟨q + 1 + 1, _, by go_num, by omega, rfl⟩
                case measure => simp [intOf]; omega
          · have hxr : x ∈ R := by
              have := HX.out
              rw [List.getElem?_append_left (by have := HN.out; omega)] at this
              exact List.mem_of_getElem? this
            have hkd := HP.out.2.1 x hxr
            have e0 : (x.kind == 5) = false := beq_eq_false_iff_ne.2 (by omega)
            have e1 : (x.text.toList == []) = false := text_some (HP.out.2.2 x hxr)
            have hl : ((k : Int) == (N : Int) - 1) = false := beq_eq_false_iff_ne.2 (by omega)
            clear hxr hkd
            cases k with
            | zero =>
              simp only [Nat.zero_mul, Nat.zero_add] at x0 x1 x3 x4
              have hl2 : ((0 : Int) == (N : Int) - 1) = false := hl
              have h00 : decide ((0 : Int) < 0) = false := rfl
              rw [show ((0 : Nat) : Int) = 0 from rfl]
              clear hl
              go_wp2
              dsimp only [List.append]
              go_quiet (fail)
              go_wp2
              go_roundw
              case rel => exact ⟨1, _, by go_num, by omega, rfl⟩
              case measure => simp [intOf]; omega
            | succ q =>
              obtain ⟨y, hy⟩ : ∃ y, (R ++ [endTk s])[q]? = some y := ⟨_, List.getElem?_eq_getElem (by rw [List.length_append, List.length_singleton, HN.out]; omega)⟩
              have hpl := pairs HP.out.1 hy HX.out
              have cy := fun j (hj : j < 5) => (World.ownsRow.cellAt HO.out (q * 5 + j) (by rw [HN.out]; omega)).trans (tkFlat_get _ q j y hy hj)
              have y3 := cy 3 (by omega)
              have y4 := cy 4 (by omega)
              clear cy hy
              simp only [tkCells, List.getElem?_cons_succ, List.getElem?_cons_zero] at y3 y4
              have hqz : (q : Int) < (N : Int) := by omega
              rw [show ((q + 1 : Nat) : Int) = (q : Int) + 1 from rfl]
              have hl3 : ((q : Int) + 1 == (N : Int) - 1) = false := by rw [← hl]; rfl
              clear hl
              have hqt : ((q : Int) + 1).toNat = q + 1 := by omega
              unfold PLt at hpl
              have hl2 : decide (x.line < y.line) = false := decide_eq_false (by omega)
              have hq0 : decide ((0 : Int) < (q : Int) + 1) = true := decide_eq_true (by omega)
              by_cases hsame : x.line = y.line
              · have hsl : (x.line == y.line) = true := by rw [beq_iff_eq]; exact hsame
                have hc2 : decide (x.col ≤ y.col) = false := decide_eq_false (by omega)
                clear hpl hsame
                go_wp2
                dsimp only [List.append]
                go_quiet (fail)
                go_wp2
                go_roundw
                case rel => exact ⟨q + 1 + 1, _, by go_num, by omega, rfl⟩
                case measure => simp [intOf]; omega
              · have hsl : (x.line == y.line) = false := beq_eq_false_iff_ne.2 hsame
                clear hpl hsame
                go_wp2
                dsimp only [List.append]
                go_quiet (fail)
                go_wp2
                go_roundw
                case rel => exact ⟨q + 1 + 1, _, by go_num, by omega, rfl⟩
                case measure => simp [intOf]; omega
        · have hkz : (N : Int) ≤ (k : Int) := by omega
          go_wp2_with fail
          refine (awake_any _ ((HM.out.below HB1.out HZ.out).drewN n)).mono ?_
          rintro e w2 ⟨rfl, hb2⟩
          have HB2 := Lib.hid ((below_drewN HB1.out n).trans (hb2.mono (below_drewN HB1.out n).size))
          clear hb2
          go_wp2
          go_ret
          exact ⟨rfl, HB2.out⟩
    · have hTn := tokRes_bad s he
      have HT := Lib.hid hTn
      have hen : ((tokRes s).er == 0) = false := beq_eq_false_iff_ne.2 he
      have HE := Lib.hid he
      obtain ⟨er, hre⟩ : ∃ er, (tokRes s).er = er := ⟨_, rfl⟩
      obtain ⟨line, hrl⟩ : ∃ er, (tokRes s).line = er := ⟨_, rfl⟩
      obtain ⟨col, hrc⟩ : ∃ er, (tokRes s).col = er := ⟨_, rfl⟩
      rw [hre] at hen
      have HRE := Lib.hid (And.intro hre (And.intro hrl hrc))
      clear hTn he hre hrl hrc
      go_enter Tryd.func6, Tryd.ntmps6
      go_wp2_with fail
      refine (tokens_any s _ hm (by omega)).mono ?_
      rintro e w1 ⟨v, rfl, hown, hb1⟩
      rw [HT.out] at hown
      rw [faultV_no HE.out, HRE.out.1, HRE.out.2.1, HRE.out.2.2]
      obtain ⟨ad, cap, rfl⟩ := owns_len hown
      have HB1 := Lib.hid (hb1.alloc hb1.size (.cells #[.int .i64 er, .int .i64 line, .int .i64 col] 28))
      clear hown hb1 hm
      simp only [List.length_nil]
      go_wp2_with fail
      refine (awake_any _ (HM.out.below HB1.out HZ.out)).mono ?_
      rintro e w2 ⟨rfl, hb2⟩
      have HB2 := Lib.hid (HB1.out.trans (hb2.mono HB1.out.size))
      clear hb2
      go_wp2
      go_ret
      exact ⟨rfl, HB2.out⟩

end Go.Proofs.YthbbbccefjemmaaDoor
