/- Contracts of warderref02's Same, and of the law TokenReads. -/
import Derived.Test.YthbbbccefjemmaaDoorRef02j
import Derived.Test.YthbbbccefjemmaaDoorTokAwake
import Derived.Test.YthbbbccefjemmaaDoorRisePlain
namespace Go.Proofs.YthbbbccefjemmaaDoor
open Go.RowKit

/-- a slice that reads as tokens -/
def TkRow (w : World) (v : Value) (T : List Tk) : Prop := ∃ B, w.ownsRow B 35 5 v T.length (tkFlat T)
theorem TkRow.keep {w w' : World} {v : Value} {T : List Tk} (h : TkRow w v T) (hb : Below w.heap.size w w') : TkRow w' v T := by
  obtain ⟨B, h⟩ := h; exact ⟨B, owns_below h hb⟩
theorem TkRow.drewN {w : World} {v : Value} {T : List Tk} (h : TkRow w v T) (n : Nat) : TkRow (w.drewN n) v T := h
theorem TkRow.alloc {w : World} {v : Value} {T : List Tk} (h : TkRow w v T) (o : Obj) : TkRow (w.alloc o) v T := h.keep ((Below.refl _ _).alloc (Nat.le_refl _) o)
theorem TkRow.len {w : World} {v : Value} {T : List Tk} (h : TkRow w v T) : ∃ ad cap, v = .slice ad T.length cap := by
  obtain ⟨B, h⟩ := h; exact owns_len h
theorem TkRow.at {w : World} {v : Value} {T : List Tk} (h : TkRow w v T) {k : Nat} {x : Tk} (hx : T[k]? = some x) :
    ∃ g cap, v = .slice (some ⟨g, 0, none⟩) T.length cap ∧ g < w.heap.size ∧ w.cell? ⟨g, k * 5, none⟩ = some (.int .i64 x.kind) ∧ w.cell? ⟨g, k * 5 + 1, none⟩ = some (.string x.text) ∧ w.cell? ⟨g, k * 5 + 2, none⟩ = some (.int .i64 x.num) ∧
      w.cell? ⟨g, k * 5 + 3, none⟩ = some (.int .i64 x.line) ∧ w.cell? ⟨g, k * 5 + 4, none⟩ = some (.int .i64 x.col) := by
  obtain ⟨B, h⟩ := h
  have hk := (List.getElem?_eq_some_iff.1 hx).1
  obtain ⟨g, cap, rfl, hg, hgs⟩ := owns_shape h (by omega)
  have c := fun j (hj : j < 5) => (World.ownsRow.cellAt h (k * 5 + j) (by omega)).trans (tkFlat_get _ k j x hx hj)
  exact ⟨g, cap, rfl, hgs, c 0 (by omega), c 1 (by omega), c 2 (by omega), c 3 (by omega), c 4 (by omega)⟩

set_option maxHeartbeats 4000000 in
theorem same_any {w : World} {u v : Value} {T : List Tk} (ha : TkRow w u T) (hb : TkRow w v T) (hT : T.length ≤ 5000) :
    Calls Tryd.prog 10 #[u, v] w fun e w' => e = .returned (.bool true) ∧ ∃ n, w' = w.drewN n := by
  obtain ⟨ad, cap, hu⟩ := ha.len
  obtain ⟨ad2, cap2, hv⟩ := hb.len
  have HA := Lib.hid ha
  have HB := Lib.hid hb
  subst hu
  subst hv
  clear ha hb
  go_enter Tryd.func10, Tryd.ntmps10
  go_wp2
  go_loopw [5] (fun i wr => ∃ k n : Nat, i = .int .i64 k ∧ k ≤ T.length ∧ wr = w.drewN n) (fun i _ => T.length - (intOf i).toNat)
  case atStart => exact ⟨0, 0, by go_num, by omega, rfl⟩
  case round =>
    obtain ⟨k, n, rfl, hk, rfl⟩ := hrel
    by_cases hlt : k < T.length
    · obtain ⟨x, hx⟩ : ∃ x, T[k]? = some x := ⟨_, List.getElem?_eq_getElem hlt⟩
      obtain ⟨g, c1, hg, hgl, a0, a1, a2, a3, a4⟩ := HA.out.at hx
      obtain ⟨g2, c2, hg2, hgl2, b0, b1, b2, b3, b4⟩ := HB.out.at hx
      simp only [Value.slice.injEq, true_and] at hg hg2
      obtain ⟨rfl, rfl⟩ := hg
      obtain ⟨rfl, rfl⟩ := hg2
      have hkz : (k : Int) < (T.length : Int) := by omega
      clear hx
      go_wp2
      go_quiet (fail)
      go_wp2
      go_roundw
      case rel => exact ⟨k + 1, _, by go_num, by omega, rfl⟩
      case measure => simp [intOf]; omega
    · have hkz : (T.length : Int) ≤ (k : Int) := by omega
      go_wp2
      go_ret
      exact ⟨rfl, n, rfl⟩

set_option maxHeartbeats 4000000 in
theorem lawReads_any (s : ByteArray) (w : World) (hm : MaxCell w) (hs : s.size ≤ 140737488351232) :
    Calls Tryd.prog 3 #[.string s] w fun e w' => e = .returned (.bool true) ∧ Below w.heap.size w w' := by
  have HM := Lib.hid hm
  have HZ : Hid (0 < w.heap.size) := by obtain ⟨m, hm⟩ := hm; exact World.block_lt_of_cell? w _ hm
  by_cases hbig : 70000 < s.size
  · have hbz : (70000 : Int) < s.size := by omega
    clear hm
    go_enter Tryd.func3, Tryd.ntmps3
    go_wp2_with fail
    refine (awake_any _ HM.out).mono ?_
    rintro e w2 ⟨rfl, hb2⟩
    go_wp2
    go_ret
    exact ⟨rfl, hb2⟩
  · have hbz : (s.size : Int) ≤ 70000 := by omega
    have hlen : (tokRes s).T.length ≤ 5000 := by
      by_cases he : (tokRes s).er = 0
      · obtain ⟨R, hT, hl, _⟩ := tokRes_rises s he
        rw [hT, List.length_append, List.length_singleton]; omega
      · rw [tokRes_bad s he]; simp
    obtain ⟨T, hT⟩ : ∃ T, (tokRes s).T = T := ⟨_, rfl⟩
    obtain ⟨fe, hfe⟩ : ∃ f, faultV (tokRes s).er (tokRes s).line (tokRes s).col = f := ⟨_, rfl⟩
    have hagg : ∃ a b c : Int, fe = .agg #[.int .i64 a, .int .i64 b, .int .i64 c] := by
      rw [← hfe]
      by_cases he : (tokRes s).er = 0
      · rw [he, faultV_ok]; exact ⟨0, 0, 0, rfl⟩
      · rw [faultV_no he]; exact ⟨_, _, _, rfl⟩
    obtain ⟨a, b, c, hag⟩ := hagg
    rw [hag] at hfe
    rw [hT] at hlen
    have HT := Lib.hid (And.intro hT hfe)
    clear hT hfe hag
    go_enter Tryd.func3, Tryd.ntmps3
    go_wp2_with fail
    refine (tokens_any s _ hm (by omega)).mono ?_
    rintro e w1 ⟨v, rfl, hown, hb1⟩
    rw [HT.out.1] at hown
    rw [HT.out.2]
    obtain ⟨ad, cap, hv⟩ := owns_len hown
    subst hv
    have HR1 := Lib.hid (TkRow.alloc ⟨_, hown⟩ (.cells #[.int .i64 a, .int .i64 b, .int .i64 c] 28))
    have HB1 := Lib.hid (hb1.alloc hb1.size (.cells #[.int .i64 a, .int .i64 b, .int .i64 c] 28))
    have HF1 := Lib.hid (FltAt.new w1 a b c)
    clear hown hb1 hm
    go_wp2_with fail
    refine (rtokens_any s _ (by omega)).mono ?_
    rintro e w2 ⟨v2, rfl, hown, hb2⟩
    rw [HT.out.1] at hown
    rw [HT.out.2]
    obtain ⟨ad2, cap2, hv⟩ := owns_len hown
    subst hv
    have HR2 := Lib.hid (TkRow.alloc ⟨_, hown⟩ (.cells #[.int .i64 a, .int .i64 b, .int .i64 c] 28))
    have HR3 := Lib.hid ((HR1.out.keep hb2).alloc (.cells #[.int .i64 a, .int .i64 b, .int .i64 c] 28))
    have HB2 := Lib.hid ((HB1.out.trans (hb2.mono HB1.out.size)).alloc (by have := HB1.out.size; have := hb2.size; omega) (.cells #[.int .i64 a, .int .i64 b, .int .i64 c] 28))
    have hf1 := (HF1.out.below hb2 HF1.out.lt)
    have hfl := hf1.lt
    obtain ⟨a0, a1, a2, _, _, _⟩ := hf1.facts
    clear hown hb2 hf1
    go_wp2_with fail
    refine (same_any HR3.out HR2.out hlen).mono ?_
    rintro e w3 ⟨rfl, n, rfl⟩
    go_wp2_with fail
    refine (awake_any _ ((HM.out.below HB2.out HZ.out).drewN n)).mono ?_
    rintro e w4 ⟨rfl, hb4⟩
    have HB4 := Lib.hid ((below_drewN HB2.out n).trans (hb4.mono (below_drewN HB2.out n).size))
    clear hb4
    go_wp2
    go_ret
    exact ⟨rfl, HB4.out⟩

end Go.Proofs.YthbbbccefjemmaaDoor
