/- Contracts of plain, and of the law TokenAgain. -/
import Derived.Test.YthbbbccefjemmaaDoorReads
import Derived.Test.YthbbbccefjemmaaDoorAgain2
namespace Go.Proofs.YthbbbccefjemmaaDoor
open Go.RowKit

theorem pj_len (l : List Tk) : (pj l).length ≤ sumT l + l.length := by
  unfold pj
  rw [List.length_drop]
  have : ∀ l : List Tk, (l.flatMap (fun x => 32 :: x.text.data.toList)).length = sumT l + l.length := by
    intro l
    induction l with
    | nil => rfl
    | cons y r ih =>
      simp only [List.flatMap_cons, List.length_append, List.length_cons, ih, sumT, List.map_cons, List.sum_cons]
      have : y.text.data.toList.length = y.text.size := by simp
      omega
  rw [this]; omega
theorem sum_take (l : List Tk) (k : Nat) : sumT (l.take k) ≤ sumT l := by
  have e : sumT (l.take k ++ l.drop k) = sumT (l.take k) + sumT (l.drop k) := by simp only [sumT, List.map_append, List.sum_append]
  rw [List.take_append_drop] at e
  omega
theorem pj_take (l : List Tk) (k : Nat) : (pj (l.take k)).length ≤ sumT l + l.length := by
  have h1 := pj_len (l.take k)
  have h2 := sum_take l k
  have h3 : (l.take k).length ≤ l.length := by simp; omega
  omega

set_option maxHeartbeats 4000000 in
theorem plain_any {w : World} {v : Value} {T : List Tk} (h : TkRow w v T) (hT : T.length ≤ 5000) (hs : sumT T ≤ 100000) :
    Calls Tryd.prog 13 #[v] w fun e w' => (∃ P : ByteArray, e = .returned (.string P) ∧ P.data.toList = pj T) ∧ w = w' := by
  obtain ⟨ad, cap, hv⟩ := h.len
  have HR := Lib.hid h
  subst hv
  clear h
  go_enter Tryd.func13, Tryd.ntmps13
  go_wp2
  go_loop [3, 4] (fun u i => ∃ (k : Nat) (c : ByteArray), u = .string c ∧ i = .int .i64 k ∧ k ≤ T.length ∧ c.size ≤ 105000 ∧ Hid (c.data.toList = pj (T.take k))) (fun _ i => T.length - (intOf i).toNat)
  case atStart => exact ⟨0, ⟨#[]⟩, rfl, by go_num, by omega, by decide, rfl⟩
  case round =>
    obtain ⟨k, c, rfl, rfl, hk, hc, HE⟩ := hrel
    by_cases hlt : k < T.length
    · obtain ⟨x, hx⟩ : ∃ x, T[k]? = some x := ⟨_, List.getElem?_eq_getElem hlt⟩
      obtain ⟨g, c1, hg, hgl, a0, a1, a2, a3, a4⟩ := HR.out.at hx
      simp only [Value.slice.injEq, true_and] at hg
      obtain ⟨rfl, rfl⟩ := hg
      have hkz : (k : Int) < (T.length : Int) := by omega
      have htk : T.take (k + 1) = T.take k ++ [x] := by rw [List.take_add_one, hx]; rfl
      have hnl := pj_take T (k + 1)
      have HTK := Lib.hid htk
      clear hx htk a0 a2 a3 a4
      cases k with
      | zero =>
        have hcl : c.data.toList = [] := HE.out
        have hnew : (c ++ x.text).data.toList = pj (T.take (0 + 1)) := by
          rw [HTK.out, show T.take 0 = [] from rfl, List.nil_append, pj_one]
          simp [ByteArray.data_append, hcl]
        have hsz : (c ++ x.text).size ≤ 105000 := by
          have : (c ++ x.text).data.toList.length = (c ++ x.text).size := by simp
          rw [hnew] at this; omega
        have hxs : c.size + x.text.size ≤ 105000 := by rw [← ByteArray.size_append]; exact hsz
        have HN := Lib.hid (And.intro hnew hsz)
        clear hcl hnew hsz hnl
        rw [show ((0 : Nat) : Int) = 0 from rfl]
        simp only [Nat.zero_mul, Nat.zero_add] at a1
        go_wp2
        go_round
        case rel => exact ⟨1, _, rfl, by go_num, by omega, HN.out.2, HN.out.1⟩
        case measure => simp [intOf]; omega
      | succ q =>
        have hne : T.take (q + 1) ≠ [] := by
          intro e
          have h9 : (T.take (q + 1)).length = 0 := by rw [e]; rfl
          rw [List.length_take] at h9
          omega
        have hnew : (c ++ (⟨#[32]⟩ : ByteArray) ++ x.text).data.toList = pj (T.take (q + 1 + 1)) := by
          rw [HTK.out, pj_snoc _ _ hne, ← HE.out]
          simp [ByteArray.data_append]
        clear hne
        have hsz : (c ++ (⟨#[32]⟩ : ByteArray) ++ x.text).size ≤ 105000 := by
          have : (c ++ (⟨#[32]⟩ : ByteArray) ++ x.text).data.toList.length = (c ++ (⟨#[32]⟩ : ByteArray) ++ x.text).size := by rw [Array.length_toList]; rfl
          rw [hnew] at this; omega
        have hxs : c.size + 1 + x.text.size ≤ 105000 := by
          have h1 := hsz
          rw [ByteArray.size_append, ByteArray.size_append] at h1
          exact h1
        have hq0 : (0 : Int) < (q : Int) + 1 := by omega
        have hqt : ((q : Int) + 1).toNat = q + 1 := by omega
        have HN := Lib.hid (And.intro hnew hsz)
        clear hnew hsz hnl
        rw [show ((q + 1 : Nat) : Int) = (q : Int) + 1 from rfl]
        go_wp2
        go_round
        case rel => exact ⟨q + 1 + 1, _, rfl, by go_num, by omega, HN.out.2, HN.out.1⟩
        case measure => simp [intOf]; omega
    · have hkz : (T.length : Int) ≤ (k : Int) := by omega
      have HF : Hid (c.data.toList = pj T) := by
        have := HE.out
        rwa [List.take_of_length_le (by omega)] at this
      go_wp2
      go_ret
      exact ⟨⟨c, rfl, HF.out⟩, rfl⟩

set_option maxRecDepth 100000 in
set_option maxHeartbeats 8000000 in
theorem lawAgain_any (s : ByteArray) (w : World) (hm : MaxCell w) (hs : s.size ≤ 140737488351232) :
    Calls Tryd.prog 5 #[.string s] w fun e w' => e = .returned (.bool true) ∧ Below w.heap.size w w' := by
  have HM := Lib.hid hm
  have HZ : Hid (0 < w.heap.size) := by obtain ⟨m, hm⟩ := hm; exact World.block_lt_of_cell? w _ hm
  by_cases hbig : 3000 < s.size
  · have hbz : (3000 : Int) < s.size := by omega
    clear hm
    go_enter Tryd.func5, Tryd.ntmps5
    go_wp2_with fail
    refine (awake_any _ HM.out).mono ?_
    rintro e w2 ⟨rfl, hb2⟩
    go_wp2
    go_ret
    exact ⟨rfl, hb2⟩
  · have hbz : (s.size : Int) ≤ 3000 := by omega
    by_cases he : (tokRes s).er = 0
    · have hag := fun P => again_res s P (by omega) he
      have hsm := again_sum s (by omega) he
      obtain ⟨T, hT⟩ : ∃ T, (tokRes s).T = T := ⟨_, rfl⟩
      rw [hT] at hag hsm
      have HAG := Lib.hid hag
      have HT := Lib.hid (And.intro hT he)
      obtain ⟨hsm1, hsm2⟩ := hsm
      clear hag hT he
      go_enter Tryd.func5, Tryd.ntmps5
      go_wp2_with fail
      refine (tokens_any s _ hm (by omega)).mono ?_
      rintro e w1 ⟨v, rfl, hown, hb1⟩
      rw [HT.out.1] at hown
      rw [HT.out.2, faultV_ok]
      obtain ⟨ad, cap, hv⟩ := owns_len hown
      subst hv
      have HR1 := Lib.hid (TkRow.alloc ⟨_, hown⟩ (.cells #[.int .i64 0, .int .i64 0, .int .i64 0] 28))
      have HB1 := Lib.hid (hb1.alloc hb1.size (.cells #[.int .i64 0, .int .i64 0, .int .i64 0] 28))
      clear hown hb1 hm
      go_wp2_with fail
      refine (plain_any HR1.out hsm1 hsm2).mono ?_
      rintro e w' ⟨⟨P, rfl, hP⟩, rfl⟩
      obtain ⟨hPs, hPe, hPl, hPT⟩ := HAG.out P hP
      obtain ⟨T2, hT2⟩ : ∃ T, (tokRes P).T = T := ⟨_, rfl⟩
      rw [hT2] at hPl hPT
      have HP := Lib.hid (And.intro hPe (And.intro hT2 hPT))
      have hPl2 : T.length = T2.length := hPl.symm
      clear hP hPe hT2 hPT hPl
      go_wp2_with fail
      refine (tokens_any P _ (HM.out.below HB1.out HZ.out) (by omega)).mono ?_
      rintro e w2 ⟨v2, rfl, hown, hb2⟩
      rw [HP.out.2.1] at hown
      rw [HP.out.1, faultV_ok]
      obtain ⟨ad2, cap2, hv2⟩ := owns_len hown
      subst hv2
      have HR2 := Lib.hid (TkRow.alloc ⟨_, hown⟩ (.cells #[.int .i64 0, .int .i64 0, .int .i64 0] 28))
      have HR3 := Lib.hid ((HR1.out.keep hb2).alloc (.cells #[.int .i64 0, .int .i64 0, .int .i64 0] 28))
      have HB2 := Lib.hid ((HB1.out.trans (hb2.mono HB1.out.size)).alloc (by have := HB1.out.size; have := hb2.size; omega) (.cells #[.int .i64 0, .int .i64 0, .int .i64 0] 28))
      clear hown hb2
      have HPL := Lib.hid hPl2
      rw [← hPl2]
      clear hPl2
      go_wp2
      go_loopw [7] (fun i wr => ∃ k n : Nat, i = .int .i64 k ∧ k ≤ T.length ∧ wr = (w2.alloc (.cells #[.int .i64 0, .int .i64 0, .int .i64 0] 28)).drewN n) (fun i _ => T.length - (intOf i).toNat)
      case atStart => exact ⟨0, 0, by go_num, by omega, rfl⟩
      case round =>
        obtain ⟨k, n, rfl, hk, rfl⟩ := hrel
        by_cases hlt : k < T.length
        · obtain ⟨x, hx⟩ : ∃ x, T[k]? = some x := ⟨_, List.getElem?_eq_getElem hlt⟩
          obtain ⟨y, hy⟩ : ∃ y, T2[k]? = some y := ⟨_, List.getElem?_eq_getElem (by rw [← HPL.out]; exact hlt)⟩
          obtain ⟨hs1, hs2, hs3⟩ := HP.out.2.2 k x y hx hy
          obtain ⟨g, c1, hg, hgl, a0, a1, a2, _, _⟩ := HR3.out.at hx
          obtain ⟨g2, c2, hg2, hgl2, b0, b1, b2, _, _⟩ := HR2.out.at hy
          rw [← hs1] at b0
          rw [← hs2] at b1
          rw [← hs3] at b2
          simp only [Value.slice.injEq, true_and] at hg
          obtain ⟨rfl, rfl⟩ := hg
          rw [← HPL.out] at hg2
          simp only [Value.slice.injEq, true_and] at hg2
          obtain ⟨rfl, rfl⟩ := hg2
          have hkz : (k : Int) < (T.length : Int) := by omega
          clear hx hy hs1 hs2 hs3
          go_wp2
          go_quiet (fail)
          go_wp2
          go_roundw
          case rel => exact ⟨k + 1, _, by go_num, by omega, rfl⟩
          case measure => simp [intOf]; omega
        · have hkz : (T.length : Int) ≤ (k : Int) := by omega
          go_wp2_with fail
          refine (awake_any _ ((HM.out.below HB2.out HZ.out).drewN n)).mono ?_
          rintro e w4 ⟨rfl, hb4⟩
          have HB4 := Lib.hid ((below_drewN HB2.out n).trans (hb4.mono (below_drewN HB2.out n).size))
          clear hb4
          go_wp2
          go_ret
          exact ⟨rfl, HB4.out⟩
    · have hTn := tokRes_bad s he
      have HT := Lib.hid hTn
      have hen : ((tokRes s).er == 0) = false := beq_eq_false_iff_ne.2 he
      have HE := Lib.hid he
      obtain ⟨er, hre⟩ : ∃ er, (tokRes s).er = er := ⟨_, rfl⟩
      obtain ⟨line, hrl⟩ : ∃ er, (tokRes s).line = er := ⟨_, rfl⟩
      obtain ⟨col, hrc⟩ : ∃ er, (tokRes s).col = er := ⟨_, rfl⟩
      rw [hre] at hen
      have HRE := Lib.hid (And.intro hre (And.intro hrl hrc))
      clear hTn he hre hrl hrc
      go_enter Tryd.func5, Tryd.ntmps5
      go_wp2_with fail
      refine (tokens_any s _ hm (by omega)).mono ?_
      rintro e w1 ⟨v, rfl, hown, hb1⟩
      rw [HT.out] at hown
      rw [faultV_no HE.out, HRE.out.1, HRE.out.2.1, HRE.out.2.2]
      obtain ⟨ad, cap, rfl⟩ := owns_len hown
      have HB1 := Lib.hid (hb1.alloc hb1.size (.cells #[.int .i64 er, .int .i64 line, .int .i64 col] 28))
      clear hown hb1 hm
      simp only [List.length_nil]
      go_wp2_with fail
      refine (awake_any _ (HM.out.below HB1.out HZ.out)).mono ?_
      rintro e w2 ⟨rfl, hb2⟩
      have HB2 := Lib.hid (HB1.out.trans (hb2.mono HB1.out.size))
      clear hb2
      go_wp2
      go_ret
      exact ⟨rfl, HB2.out⟩

end Go.Proofs.YthbbbccefjemmaaDoor
