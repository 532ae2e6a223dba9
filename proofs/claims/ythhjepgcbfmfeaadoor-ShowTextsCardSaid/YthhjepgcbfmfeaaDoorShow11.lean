/- Contracts of warderref06's text at whatever formula, of warderref04's Check, and of warderref06's Formula. -/
import Derived.Test.YthhjepgcbfmfeaaDoorShow10
import Derived.Test.YthhjepgcbfmfeaaDoorShow7
namespace Go.Proofs.YthhjepgcbfmfeaaDoor
open Go.RowKit

theorem Fm.last : ∀ f : Fm, ∃ (l : List It) (x : It), f.flat = l ++ [x] ∧ x.op = f.op
  | .leaf x _ => ⟨[], x, rfl, rfl⟩
  | .one x _ f => ⟨f.flat, x, rfl, rfl⟩
  | .two x _ f g => ⟨f.flat ++ g.flat, x, rfl, rfl⟩
theorem at_end (A l B : List It) (x : It) : (A ++ (l ++ [x]) ++ B)[A.length + l.length]? = some x := by
  have h : A ++ (l ++ [x]) ++ B = (A ++ l) ++ x :: B := by simp
  rw [h, ← List.length_append]; simp
theorem Fm.at_last (f : Fm) (A B : List It) {e : Nat} (he : e + 1 = A.length + f.flat.length) : ∃ x, (A ++ f.flat ++ B)[e]? = some x ∧ x.op = f.op := by
  obtain ⟨l, x, hl, hx⟩ := f.last
  refine ⟨x, ?_, hx⟩
  have h2 : f.flat.length = l.length + 1 := by rw [hl]; simp
  rw [hl, show e = A.length + l.length by omega]
  exact at_end A l B x
theorem textF_small (f : Fm) (hs : ∀ x ∈ f.flat, Short x) (hl : f.flat.length ≤ 64) : (textF f).size ≤ 100000 := by
  have := textF_size f hs
  omega

theorem rtext_all : ∀ (f : Fm) (A B : List It) (v : Value), (A ++ f.flat ++ B).length ≤ 1000 → (∀ x ∈ f.flat, Short x) → f.flat.length ≤ 64 → ∀ e, e + 1 = A.length + f.flat.length → TextAt (A ++ f.flat ++ B) v (textF f) e
  | .leaf x h, A, B, v, hO, hs, hl, e, he => by
    have e1 : A ++ (Fm.leaf x h).flat ++ B = A ++ ([] ++ [x]) ++ B := by simp [Fm.flat]
    have he' : e = A.length + ([] : List It).length := by simp [Fm.flat] at he ⊢; omega
    have hx := at_end A [] B x
    rw [← he', ← e1] at hx
    exact rtext_leaf hx (hs x (by simp [Fm.flat])) h
  | .one x h f, A, B, v, hO, hs, hl, e, he => by
    have e1 : A ++ (Fm.one x h f).flat ++ B = A ++ f.flat ++ (x :: B) := by simp [Fm.flat]
    have hfl := f.flat_pos
    have hln : (Fm.one x h f).flat.length = f.flat.length + 1 := by simp [Fm.flat]
    obtain ⟨e0, rfl⟩ : ∃ e0, e = e0 + 1 := ⟨e - 1, by omega⟩
    have he0 : e0 + 1 = A.length + f.flat.length := by omega
    have hx : (A ++ (Fm.one x h f).flat ++ B)[e0 + 1]? = some x := by
      have := at_end A f.flat B x
      rw [← he0] at this
      exact this
    have hsf : ∀ y ∈ f.flat, Short y := fun y hy => hs y (by simp [Fm.flat, hy])
    have hT : TextOK (A ++ (Fm.one x h f).flat ++ B) v f e0 := by
      rw [e1] at hO ⊢
      exact rtext_all f A (x :: B) v hO hsf (by omega) e0 he0
    obtain ⟨y, hy, hyo⟩ := f.at_last A (x :: B) he0
    rw [← e1] at hy
    have hsz := textF_small f hsf (by omega)
    exact rtext_one hx hO (rside_any hT hy hyo hsz 4) hsz h
  | .two x h f g, A, B, v, hO, hs, hl, e, he => by
    have e1 : A ++ (Fm.two x h f g).flat ++ B = A ++ f.flat ++ (g.flat ++ x :: B) := by simp [Fm.flat]
    have e2 : A ++ (Fm.two x h f g).flat ++ B = (A ++ f.flat) ++ g.flat ++ (x :: B) := by simp [Fm.flat]
    have hfl := f.flat_pos
    have hgl := g.flat_pos
    have hln : (Fm.two x h f g).flat.length = f.flat.length + g.flat.length + 1 := by simp [Fm.flat]; omega
    obtain ⟨e0, rfl⟩ : ∃ e0, e = e0 + 1 := ⟨e - 1, by omega⟩
    obtain ⟨k, hk⟩ : ∃ k, k + 1 = A.length + f.flat.length := ⟨A.length + f.flat.length - 1, by omega⟩
    have he0 : e0 + 1 = (A ++ f.flat).length + g.flat.length := by rw [List.length_append]; omega
    have hx : (A ++ (Fm.two x h f g).flat ++ B)[e0 + 1]? = some x := by
      have := at_end A (f.flat ++ g.flat) B x
      rw [List.length_append, ← Nat.add_assoc, ← List.length_append, ← he0] at this
      exact this
    have hsf : ∀ y ∈ f.flat, Short y := fun y hy => hs y (by simp [Fm.flat, hy])
    have hsg : ∀ y ∈ g.flat, Short y := fun y hy => hs y (by simp [Fm.flat, hy])
    have hF : TextOK (A ++ (Fm.two x h f g).flat ++ B) v f k := by
      rw [e1] at hO ⊢
      exact rtext_all f A _ v hO hsf (by omega) k hk
    have hG : TextOK (A ++ (Fm.two x h f g).flat ++ B) v g e0 := by
      rw [e2] at hO ⊢
      exact rtext_all g (A ++ f.flat) _ v hO hsg (by omega) e0 he0
    obtain ⟨y, hy, hyo⟩ := f.at_last A (g.flat ++ x :: B) hk
    rw [← e1] at hy
    obtain ⟨z, hz, hzo⟩ := g.at_last (A ++ f.flat) (x :: B) he0
    rw [← e2] at hz
    have hbg : begB (A ++ (Fm.two x h f g).flat ++ B) (e0 + 1) 1 = (k : Int) + 1 := by
      have := begB_tree g (A ++ f.flat) (x :: B) 1 (by omega)
      rw [if_pos rfl, ← e2, ← he0] at this
      rw [this, List.length_append]; omega
    have hsz := textF_small f hsf (by omega)
    have hgz := textF_small g hsg (by omega)
    have h5 : x.op = 16 ∨ x.op = 17 ∨ x.op = 18 ∨ x.op = 25 ∨ x.op = 26 := by
      unfold arN at h
      split at h
      · omega
      split at h
      · omega
      split at h
      · omega
      · omega
    rcases h5 with h5 | h5 | h5 | h5 | h5
    · exact rtext_two16 hx hO hbg (rside_any hF hy hyo hsz 3) (rside_any hG hz hzo hgz 4) hsz hgz h5
    · exact rtext_two17 hx hO hbg (rside_any hF hy hyo hsz 2) (rside_any hG hz hzo hgz 3) hsz hgz h5
    · exact rtext_two18 hx hO hbg (rside_any hF hy hyo hsz 2) hG hsz hgz h5
    · exact rtext_two25 hx hO hbg hF hG hsz hgz h5
    · exact rtext_two26 hx hO hbg hF hG hsz hgz h5

theorem rtext_end {O : List It} {f : Fm} (hf : treeF O = some f) (hs : ∀ x ∈ O, Short x) (hl : O.length ≤ 64) (v : Value) {e : Nat} (he : e + 1 = O.length) : TextAt O v (textF f) e := by
  have h := treeF_flat hf
  have := rtext_all f [] [] v (by simp [h]; omega) (by rw [h]; exact hs) (by rw [h]; exact hl) e (by simp [h]; omega)
  simpa [h] using this

set_option maxRecDepth 100000 in
set_option maxHeartbeats 2000000 in
theorem rcheck_any {w : World} {v : Value} {O : List It} (h : ItIn w v O) :
    Calls Tryd.prog 15 #[v] w fun e w' => e = .returned (.int .i64 (chkN O)) ∧ w' = w := by
  obtain ⟨ad, cap, hv⟩ := h.len
  subst hv
  by_cases hl0 : O.length = 0
  · have H : Hid (chkN O = 12) := by unfold Hid chkN; rw [if_pos hl0]
    rw [H.out]
    have hz0 : ((O.length : Int) == 0) = true := beq_iff_eq.2 (by omega)
    clear h hl0
    go_enter Tryd.func15, Tryd.ntmps15
    go_wp2
    go_ret
    exact ⟨rfl, rfl⟩
  have hz0 : ((O.length : Int) == 0) = false := beq_eq_false_iff_ne.2 (by omega)
  by_cases hl64 : 64 < O.length
  · have H : Hid (chkN O = 3) := by unfold Hid chkN; rw [if_neg hl0, if_pos hl64]
    rw [H.out]
    have hz64 : (64 : Int) < (O.length : Int) := by omega
    clear h hl0
    go_enter Tryd.func15, Tryd.ntmps15
    go_wp2
    go_ret
    exact ⟨rfl, rfl⟩
  have hz64 : ¬ (64 : Int) < (O.length : Int) := by omega
  have HK : Hid (chkN O = match treeF O with | some _ => 0 | none => 17) := by unfold Hid chkN; rw [if_neg hl0, if_neg hl64]; cases treeF O <;> rfl
  have HG := Lib.hid (rbegin_any h O.length (Nat.le_refl _) (by omega))
  have HB : Hid (begB O O.length 1 = 0 ↔ ∃ f, treeF O = some f) := begB_treeF O
  obtain ⟨b, hb⟩ : ∃ b, begB O O.length 1 = b := ⟨_, rfl⟩
  rw [hb] at HG HB
  obtain ⟨n, hn⟩ : ∃ n : Int, (O.length : Int) = n := ⟨_, rfl⟩
  obtain ⟨m, hm⟩ : ∃ m : Int, n - 1 = m := ⟨_, rfl⟩
  have hwm : IntKind.i64.wrap (n - 1) = m := by rw [hm]; exact IntWalk.i64_in _ ⟨by clear HG; omega, by clear HG; omega⟩
  rw [hn, hm] at HG
  by_cases h0 : b = 0
  · have HC : Hid (chkN O = 0) := by
      unfold Hid
      obtain ⟨f, hf⟩ := HB.out.1 h0
      rw [HK.out, hf]
    rw [HC.out]
    have hbz : (b != 0) = false := by simpa using h0
    clear h hl0 hl64 hb h0 HB HK hm
    go_enter Tryd.func15, Tryd.ntmps15
    go_wp2_with fail
    refine HG.out.mono ?_
    rintro e w1 ⟨rfl, rfl⟩
    go_wp2
    go_ret
    exact ⟨rfl, rfl⟩
  · have HC : Hid (chkN O = 17) := by
      unfold Hid
      rw [HK.out]
      cases hf : treeF O with
      | none => rfl
      | some f => exact absurd (HB.out.2 ⟨f, hf⟩) h0
    rw [HC.out]
    have hbz : (b != 0) = true := bne_iff_ne.2 h0
    clear h hl0 hl64 hb h0 HB HK hm
    go_enter Tryd.func15, Tryd.ntmps15
    go_wp2_with fail
    refine HG.out.mono ?_
    rintro e w1 ⟨rfl, rfl⟩
    go_wp2
    go_ret
    exact ⟨rfl, rfl⟩

set_option maxRecDepth 100000 in
set_option maxHeartbeats 4000000 in
theorem rformula_any {w : World} {v : Value} {O : List It} (h : ItIn w v O) (hs : ∀ x ∈ O, Short x) :
    Calls Tryd.prog 8 #[v] w fun e w' => e = .returned (.tuple #[.string (formR O).1, .int .i64 (formR O).2]) ∧ Below w.heap.size w w' := by
  obtain ⟨ad, cap, hv⟩ := h.len
  subst hv
  have HC := Lib.hid (rcheck_any h)
  by_cases hc : chkN O = 0
  · obtain ⟨f, hf⟩ := chk_tree hc
    obtain ⟨hl0, hl64, _⟩ := chk_ok hc
    obtain ⟨m, hm⟩ : ∃ m, m + 1 = O.length := ⟨O.length - 1, by omega⟩
    have HTX : Hid (∀ W : World, ItIn W (.slice ad O.length cap) O → Calls Tryd.prog 17 #[.slice ad O.length cap, .int .i64 m] W fun en w' => en = .returned (.string (textF f)) ∧ Below W.heap.size W w') := rtext_end hf hs hl64 _ hm
    have HF := Lib.hid hf; have HCK := Lib.hid hc
    have HR := Lib.hid h
    obtain ⟨tx, htx⟩ : ∃ t, (formR O).1 = t := ⟨_, rfl⟩
    obtain ⟨er, her⟩ : ∃ t, (formR O).2 = t := ⟨_, rfl⟩
    have HFR := Lib.hid (show formR O = (tx, er) by rw [← htx, ← her])
    have hwm : IntKind.i64.wrap ((O.length : Int) - 1) = m := by rw [← hm, show ((m + 1 : Nat) : Int) - 1 = m by omega]; exact IntWalk.i64_in _ ⟨by omega, by omega⟩
    rw [htx, her]
    rw [hc] at HC
    clear h hs hf hc htx her hm
    go_enter Tryd.func8, Tryd.ntmps8
    go_wp2_with fail
    refine HC.out.mono ?_
    rintro e w1 ⟨rfl, hw1⟩
    rw [hw1]; clear hw1 w1
    go_wp2
    go_loopw [5] (fun i wr => ∃ (k : Nat), i = .int .i64 k ∧ k ≤ O.length ∧ Hid ((O.take k).all namedB = true ∧ Below w.heap.size w wr)) (fun i _ => O.length - (intOf i).toNat)
    case atStart => exact ⟨0, by go_num, by omega, by simp, Below.refl _ _⟩
    case round =>
      obtain ⟨k, rfl, hk, HALL⟩ := hrel
      obtain ⟨hnm, hB⟩ := HALL.out
      by_cases hlt : k < O.length
      · obtain ⟨x, hx⟩ : ∃ x, O[k]? = some x := ⟨_, List.getElem?_eq_getElem hlt⟩
        have hxm : x ∈ O := List.mem_of_getElem? hx
        obtain ⟨g, off, c1, hg, hgl, a0, a1, a2, a3, a4, a5, a6, a7, a8⟩ := (HR.out.keep hB).at hx
        simp only [Value.slice.injEq, true_and] at hg
        obtain ⟨rfl, rfl⟩ := hg
        have HP := Lib.hid (rnamed_any (w := wr) x)
        unfold itVal at HP
        have HB := Lib.hid hB
        have hkz : (k : Int) < (O.length : Int) := by omega
        cases hnx : namedB x
        · have HE := Lib.hid (formR_unnamed HCK.out hxm hnx)
          rw [HFR.out] at HE
          rw [hnx] at HP
          clear hnm hB hx hxm HALL hnx
          go_wp2_with fail
          refine HP.out.mono ?_
          rintro e w2 ⟨rfl, hb2⟩
          have HB2 := Lib.hid (HB.out.trans (hb2.mono HB.out.size))
          clear hb2
          go_wp2
          refine bodyPost_ret (v := .tuple #[.string ⟨#[]⟩, .int .i64 17]) (by simp [results, Tryd.results8, go_sem]) rfl ?_
          exact ⟨by have e := HE.out; simp only [Prod.mk.injEq] at e; rw [e.1, e.2]; rfl, HB2.out⟩
        · have HA := Lib.hid (take_all hnm hx hnx)
          rw [hnx] at HP
          clear hnm hB hx hxm HALL hnx
          go_wp2_with fail
          refine HP.out.mono ?_
          rintro e w2 ⟨rfl, hb2⟩
          have HB2 := Lib.hid (HB.out.trans (hb2.mono HB.out.size))
          clear hb2
          go_wp2
          go_roundw
          case rel => exact ⟨k + 1, by go_num, by omega, HA.out, HB2.out⟩
          case measure => simp [intOf]; omega
      · have hkl : k = O.length := by omega
        subst hkl
        rw [List.take_length] at hnm
        have HE := Lib.hid (formR_ok HCK.out hnm HF.out)
        rw [HFR.out] at HE
        have HB := Lib.hid hB
        have HX := Lib.hid (HTX.out wr (HR.out.keep hB))
        clear hnm hB HALL
        go_wp2_with fail
        refine HX.out.mono ?_
        rintro e w2 ⟨rfl, hb2⟩
        have HB2 := Lib.hid (HB.out.trans (hb2.mono HB.out.size))
        clear hb2
        go_wp2
        refine bodyPost_ret (v := .tuple #[.string (textF f), .int .i64 0]) (by simp [results, Tryd.results8, go_sem]) rfl ?_
        exact ⟨by have e := HE.out; simp only [Prod.mk.injEq] at e; rw [e.1, e.2], HB2.out⟩
  · have HFR := Lib.hid (formR_bad hc)
    rw [HFR.out]
    have hcz : (chkN O != 0) = true := bne_iff_ne.2 hc
    obtain ⟨c, hcc⟩ : ∃ c, chkN O = c := ⟨_, rfl⟩
    rw [hcc] at HC hcz ⊢
    clear h hs hc hcc HFR
    go_enter Tryd.func8, Tryd.ntmps8
    go_wp2_with fail
    refine HC.out.mono ?_
    rintro e w1 ⟨rfl, rfl⟩
    go_wp2
    refine bodyPost_ret (v := .tuple #[.string ⟨#[]⟩, .int .i64 c]) (by simp [results, Tryd.results8, go_sem]) rfl ?_
    exact ⟨rfl, Below.refl _ _⟩

end Go.Proofs.YthhjepgcbfmfeaaDoor
