/- Contracts of warderref48.Few, of the closure of ShrinkLists, and of shrink.without. -/
import Derived.Test.YtjmggphnngffjaaStmApp
import Derived.Test.YtjmggphnngffjaaBlk
import Derived.Deep.DeepCutAuto
namespace Go.Proofs.Ytjmggphnngffjaa
open Go.RowKit

/-- how many are still wanted -/
def fewN (kind : Int) : List Sm → Int → Int
  | [], n => n
  | x :: r, n => fewN kind r (if x.kind = kind then wrap64 (n - 1) else n)
def fewB (kind n : Int) (L : List Sm) : Bool := decide (fewN kind L n ≤ 0)

set_option maxRecDepth 100000 in
set_option maxHeartbeats 2000000 in
theorem few_any {w : World} {v : Value} {L : List Sm} (h : SmIn w v L) (kind n : Int) (hl : L.length ≤ 100000) :
    Calls Try.prog 10 #[v, .int .i64 kind, .int .i64 n] w fun e w' => e = .returned (.bool (fewB kind n L)) ∧ w' = w := by
  obtain ⟨ad, cap, hv⟩ := h.len
  subst hv
  have HR := Lib.hid h
  obtain ⟨R, hR⟩ : ∃ R, fewN kind L n = R := ⟨_, rfl⟩
  have HRR := Lib.hid hR
  have HB : Hid (fewB kind n L = decide (R ≤ 0)) := by unfold Hid fewB; rw [hR]
  rw [HB.out]
  clear h hR
  go_enter Try.func10, Try.ntmps10
  go_wp2
  go_loop [2, 7] (fun c i => ∃ (k : Nat) (m : Int), c = .int .i64 m ∧ i = .int .i64 k ∧ k ≤ L.length ∧ Hid (fewN kind (L.drop k) m = R)) (fun _ i => L.length - (intOf i).toNat)
  case atStart => exact ⟨0, n, rfl, by go_num, by omega, HRR.out⟩
  case round =>
    obtain ⟨k, m, rfl, rfl, hk, HK⟩ := hrel
    by_cases hlt : k < L.length
    · have hkz : (k : Int) < (L.length : Int) := by omega
      obtain ⟨x, hx⟩ : ∃ x, L[k]? = some x := ⟨_, List.getElem?_eq_getElem hlt⟩
      obtain ⟨g, off, c1, hg, hgl, a0, -⟩ := HR.out.at hx
      simp only [Value.slice.injEq, true_and] at hg
      obtain ⟨rfl, rfl⟩ := hg
      have hd : L.drop k = x :: L.drop (k + 1) := by rw [List.drop_eq_getElem_cons hlt, (List.getElem?_eq_some_iff.1 hx).2]
      have HN : Hid (fewN kind (L.drop (k + 1)) (if x.kind = kind then wrap64 (m - 1) else m) = R) := by
        unfold Hid; rw [← HK.out, hd]; rfl
      by_cases hq : x.kind = kind
      · rw [if_pos hq] at HN
        have hqb : (x.kind == kind) = true := beq_iff_eq.2 hq
        clear hx hd HK hgl hq
        go_wp2
        go_round
        case rel => exact ⟨k + 1, _, rfl, by go_num, by omega, HN.out⟩
        case measure => simp [intOf]; omega
      · rw [if_neg hq] at HN
        have hqb : (x.kind == kind) = false := beq_eq_false_iff_ne.2 hq
        clear hx hd HK hgl hq
        go_wp2
        go_round
        case rel => exact ⟨k + 1, _, rfl, by go_num, by omega, HN.out⟩
        case measure => simp [intOf]; omega
    · have hkl : k = L.length := by omega
      subst hkl
      have HE : Hid (m = R) := by
        unfold Hid
        have := HK.out
        rw [List.drop_length] at this
        exact this
      clear HK
      go_wp2
      go_ret
      exact ⟨ret_bool (by rw [HE.out]), rfl⟩

theorem owns_setS {w : World} {base : Nat} {e : TypeId} {sz n g cap : Nat} {xs : List Value} (h : w.ownsRow base e sz (.slice (some ⟨g, 0, none⟩) n cap) n xs) (j : Nat) (u : Value) :
    (w.setCell ⟨g, j, none⟩ u).ownsRow base e sz (.slice (some ⟨g, 0, none⟩) n cap) n (xs.set j u) ∧ Below base w (w.setCell ⟨g, j, none⟩ u) := by
  rcases h.2 with ⟨e, _⟩ | ⟨g', cap', cur, hv, hBg, hgg, a, b, c, d⟩
  · simp at e
  · simp only [Value.slice.injEq, Option.some.injEq, Addr.mk.injEq, true_and, and_true] at hv
    obtain ⟨rfl, rfl⟩ := hv
    refine ⟨⟨by rw [List.length_set]; exact h.1, .inr ⟨g, cap, cur.setIfInBounds j u, rfl, hBg, heap_setCell_same w g j cur e u hgg, a, b, by simpa using c, ?_⟩⟩, (Below.refl base w).setCell (p := ⟨g, j, none⟩) hBg u⟩
    rw [← d, Array.toList_setIfInBounds, List.take_set]
theorem owns_put12 {w : World} {base : Nat} {e : TypeId} {n g cap : Nat} {xs : List Value} (h : w.ownsRow base e 12 (.slice (some ⟨g, 0, none⟩) n cap) n xs) (k : Nat) (a0 a1 a2 a3 a4 a5 a6 a7 a8 a9 a10 a11 : Value) :
    (∃ ys, ((((((((((((w.setCell ⟨g, k * 12, none⟩ a0).setCell ⟨g, k * 12 + 1, none⟩ a1).setCell ⟨g, k * 12 + 2, none⟩ a2).setCell ⟨g, k * 12 + 3, none⟩ a3).setCell ⟨g, k * 12 + 4, none⟩ a4).setCell ⟨g, k * 12 + 5, none⟩ a5).setCell ⟨g, k * 12 + 6, none⟩ a6).setCell ⟨g, k * 12 + 7, none⟩ a7).setCell ⟨g, k * 12 + 8, none⟩ a8).setCell ⟨g, k * 12 + 9, none⟩ a9).setCell ⟨g, k * 12 + 10, none⟩ a10).setCell ⟨g, k * 12 + 11, none⟩ a11).ownsRow base e 12 (.slice (some ⟨g, 0, none⟩) n cap) n ys) ∧ Below base w ((((((((((((w.setCell ⟨g, k * 12, none⟩ a0).setCell ⟨g, k * 12 + 1, none⟩ a1).setCell ⟨g, k * 12 + 2, none⟩ a2).setCell ⟨g, k * 12 + 3, none⟩ a3).setCell ⟨g, k * 12 + 4, none⟩ a4).setCell ⟨g, k * 12 + 5, none⟩ a5).setCell ⟨g, k * 12 + 6, none⟩ a6).setCell ⟨g, k * 12 + 7, none⟩ a7).setCell ⟨g, k * 12 + 8, none⟩ a8).setCell ⟨g, k * 12 + 9, none⟩ a9).setCell ⟨g, k * 12 + 10, none⟩ a10).setCell ⟨g, k * 12 + 11, none⟩ a11) := by
  obtain ⟨h0, b0⟩ := owns_setS h (k * 12) a0
  obtain ⟨h1, b1⟩ := owns_setS h0 (k * 12 + 1) a1
  obtain ⟨h2, b2⟩ := owns_setS h1 (k * 12 + 2) a2
  obtain ⟨h3, b3⟩ := owns_setS h2 (k * 12 + 3) a3
  obtain ⟨h4, b4⟩ := owns_setS h3 (k * 12 + 4) a4
  obtain ⟨h5, b5⟩ := owns_setS h4 (k * 12 + 5) a5
  obtain ⟨h6, b6⟩ := owns_setS h5 (k * 12 + 6) a6
  obtain ⟨h7, b7⟩ := owns_setS h6 (k * 12 + 7) a7
  obtain ⟨h8, b8⟩ := owns_setS h7 (k * 12 + 8) a8
  obtain ⟨h9, b9⟩ := owns_setS h8 (k * 12 + 9) a9
  obtain ⟨h10, b10⟩ := owns_setS h9 (k * 12 + 10) a10
  obtain ⟨h11, b11⟩ := owns_setS h10 (k * 12 + 11) a11
  exact ⟨⟨_, h11⟩, (((((((((((b0.trans b1).trans b2).trans b3).trans b4).trans b5).trans b6).trans b7).trans b8).trans b9).trans b10).trans b11)⟩

set_option maxRecDepth 100000 in
set_option maxHeartbeats 4000000 in
theorem hold_any {w : World} {v : Value} {L : List Sm} {base p q : Nat} {kind n : Int} (h : w.ownsRow base 31 12 v L.length (smFlat L)) (hp : Blk w p #[.int .i64 kind] 3) (hq : Blk w q #[.int .i64 n] 3) (hl : L.length ≤ 100000) :
    Calls Try.prog 9 #[v, .pointer (some ⟨p, 0, none⟩), .pointer (some ⟨q, 0, none⟩)] w fun e w' => e = .returned (.bool (fewB kind n L)) ∧ Below base w w' := by
  have HF := Lib.hid (few_any (SmIn.of_row h) kind n hl)
  obtain ⟨b, hb⟩ : ∃ b, fewB kind n L = b := ⟨_, rfl⟩
  rw [hb] at HF ⊢
  have c0 : w.cell? ⟨p, 0, none⟩ = some (.int .i64 kind) := hp.cell rfl
  have d0 : w.cell? ⟨q, 0, none⟩ = some (.int .i64 n) := hq.cell rfl
  obtain ⟨m, hm⟩ : ∃ m, L.length = m := ⟨_, rfl⟩
  obtain ⟨xs, hxs⟩ : ∃ xs, smFlat L = xs := ⟨_, rfl⟩
  rw [hm, hxs] at h
  rw [hm] at hl
  obtain ⟨ad, cap, hv⟩ := owns_len h
  subst hv
  have HR := Lib.hid h
  clear h hp hq hb hm hxs
  go_enter Try.func9, Try.ntmps9
  go_wp2_with fail
  refine HF.out.mono ?_
  rintro e w1 ⟨rfl, hw⟩
  rw [hw]; clear hw w1
  go_wp2
  go_loopw [6] (fun i wr => ∃ (k : Nat), i = .int .i64 k ∧ k ≤ m ∧ Hid ((∃ ys, wr.ownsRow base 31 12 (.slice ad m cap) m ys) ∧ Below base w wr)) (fun i _ => m - (intOf i).toNat)
  case atStart => exact ⟨0, by go_num, by omega, ⟨_, HR.out⟩, Below.refl _ _⟩
  case round =>
    obtain ⟨k, rfl, hk, HK⟩ := hrel
    obtain ⟨⟨ys, hrow⟩, hB⟩ := HK.out
    by_cases hlt : k < m
    · have hkz : (k : Int) < (m : Int) := by omega
      obtain ⟨g, cp, hv, hg, hgs⟩ := owns_shape hrow (by omega)
      simp only [Value.slice.injEq, true_and] at hv
      obtain ⟨rfl, rfl⟩ := hv
      have fr : ∀ j, wr.frozen? ⟨g, j, none⟩ = false := fun j => World.ownsRow.frozenAt hrow j
      have f0 := fr (k * 12); have f1 := fr (k * 12 + 1); have f2 := fr (k * 12 + 2); have f3 := fr (k * 12 + 3); have f4 := fr (k * 12 + 4); have f5 := fr (k * 12 + 5)
      have f6 := fr (k * 12 + 6); have f7 := fr (k * 12 + 7); have f8 := fr (k * 12 + 8); have f9 := fr (k * 12 + 9); have f10 := fr (k * 12 + 10); have f11 := fr (k * 12 + 11)
      have hlen := hrow.1
      have fc : ∀ j, j < 12 → ∃ u, wr.cell? ⟨g, k * 12 + j, none⟩ = some u := fun j hj => ⟨_, (World.ownsRow.cellAt hrow (k * 12 + j) (by omega)).trans (List.getElem?_eq_getElem (by omega))⟩
      obtain ⟨u0, hu0⟩ := fc 0 (by decide)
      obtain ⟨u1, hu1⟩ := fc 1 (by decide)
      obtain ⟨u2, hu2⟩ := fc 2 (by decide)
      obtain ⟨u3, hu3⟩ := fc 3 (by decide)
      obtain ⟨u4, hu4⟩ := fc 4 (by decide)
      obtain ⟨u5, hu5⟩ := fc 5 (by decide)
      obtain ⟨u6, hu6⟩ := fc 6 (by decide)
      obtain ⟨u7, hu7⟩ := fc 7 (by decide)
      obtain ⟨u8, hu8⟩ := fc 8 (by decide)
      obtain ⟨u9, hu9⟩ := fc 9 (by decide)
      obtain ⟨u10, hu10⟩ := fc 10 (by decide)
      obtain ⟨u11, hu11⟩ := fc 11 (by decide)
      rw [Nat.add_zero] at hu0
      have HP := Lib.hid (owns_put12 hrow k (.int .i64 0) (.string ⟨#[]⟩) (.int .i64 0) (.int .i64 0) (.int .i64 0) (.slice none 0 0) (.string ⟨#[]⟩) (.string ⟨#[]⟩) (.string ⟨#[]⟩) (.int .i64 0) (.slice none 0 0) (.bool false))
      have HB := Lib.hid hB
      clear fr hrow hB HK fc hlen
      go_wp2
      go_roundw
      case rel => exact ⟨k + 1, by go_num, by omega, HP.out.1, HB.out.trans HP.out.2⟩
      case measure => simp [intOf]; omega
    · have hkz : ¬ (k : Int) < (m : Int) := by omega
      have HB := Lib.hid hB
      clear hrow hB HK
      go_wp2
      go_ret
      exact ⟨rfl, HB.out⟩

/-! without -/
theorem SmIn.take {w : World} {g off cap n i : Nat} {L : List Sm} (h : SmIn w (.slice (some ⟨g, off, none⟩) n cap) L) (hi : i ≤ L.length) (c : Nat) (hc1 : i ≤ c) (hc2 : c ≤ maxLen) : SmIn w (.slice (some ⟨g, off, none⟩) i c) (L.take i) := by
  obtain ⟨ad, cap2, he, _, hr⟩ := h
  simp only [Value.slice.injEq] at he
  obtain ⟨rfl, _, _⟩ := he
  refine ⟨_, c, by rw [List.length_take, Nat.min_eq_left hi], ⟨fun e => (by cases e), by rw [List.length_take, Nat.min_eq_left hi]; exact hc1, hc2⟩, ?_⟩
  rcases hr with rfl | ⟨g2, off2, ha, hg, hc⟩
  · exact .inl (by simp)
  · refine .inr ⟨g2, off2, ha, hg, fun k x hx j hj => ?_⟩
    refine hc k x ?_ j hj
    rw [List.getElem?_take] at hx
    split at hx
    · exact hx
    · cases hx
theorem SmIn.drop {w : World} {g off cap n i : Nat} {L : List Sm} (h : SmIn w (.slice (some ⟨g, off, none⟩) n cap) L) (c : Nat) (hc1 : L.length - i ≤ c) (hc2 : c ≤ maxLen) : SmIn w (.slice (some ⟨g, off + i * 12, none⟩) (L.length - i) c) (L.drop i) := by
  obtain ⟨ad, cap2, he, _, hr⟩ := h
  simp only [Value.slice.injEq] at he
  obtain ⟨rfl, _, _⟩ := he
  refine ⟨_, c, by rw [List.length_drop], ⟨fun e => (by cases e), by rw [List.length_drop]; exact hc1, hc2⟩, ?_⟩
  rcases hr with rfl | ⟨g2, off2, ha, hg, hc⟩
  · exact .inl (by simp)
  · simp only [Option.some.injEq, Addr.mk.injEq, and_true] at ha
    obtain ⟨rfl, rfl⟩ := ha
    refine .inr ⟨g, off + i * 12, rfl, hg, fun k x hx j hj => ?_⟩
    have := hc (i + k) x (by rw [List.getElem?_drop] at hx; exact hx) j hj
    rw [show off + i * 12 + k * 12 + j = off + (i + k) * 12 + j by omega]
    exact this

theorem SmIn.zero {w : World} {a : Addr} {n : Nat} {L : List Sm} (hL : L = []) (hn : n = 0) : SmIn w (.slice (some a) n 0) L := by
  subst hL
  subst hn
  exact ⟨some a, 0, rfl, ⟨fun _ => rfl, Nat.le_refl _, Nat.zero_le _⟩, .inl rfl⟩

set_option maxRecDepth 100000 in
set_option maxHeartbeats 2000000 in
theorem without_any {w : World} {v : Value} {L : List Sm} (h : SmIn w v L) (h1 : ∀ y ∈ L, SmOne y) {i : Nat} (hi : i < L.length) (hl : L.length ≤ 10000) :
    Calls Try.prog 51 #[v, .int .i64 i] w fun e w' => ∃ v', e = .returned v' ∧ w'.ownsRow w.heap.size 31 12 v' (L.take i ++ L.drop (i + 1)).length (smFlat (L.take i ++ L.drop (i + 1))) ∧ Below w.heap.size w w' := by
  obtain ⟨x, hx⟩ : ∃ x, L[i]? = some x := ⟨_, List.getElem?_eq_getElem hi⟩
  obtain ⟨g, off, cap, hv, hgl, -⟩ := h.at hx
  subst hv
  have hiz : (i : Int) < (L.length : Int) := by omega
  have hcap : L.length ≤ cap ∧ cap ≤ maxLen := by
    obtain ⟨_, _, he, hz, _⟩ := h
    simp only [Value.slice.injEq] at he
    rw [he.2.2]; exact hz.2
  obtain ⟨hcl, hcm⟩ := hcap
  obtain ⟨ii, hii, hz0, hz1, hz2⟩ := info_parts info_stmt
  obtain ⟨W1, hmk, own1, hg1⟩ := run_make_own (P := Try.prog) w w.heap.size 22 31 ii smZero 12 Try.underlying22 hii hz0 hz1 .i64 .i64 L.length (by rw [hz2]; omega) (by unfold maxLen; omega) (Nat.le_refl _)
  have hb1 : Below w.heap.size w W1 := below_of_grown hg1 (fun k hk => by cases hk) (Nat.le_refl _)
  have HB1 := Lib.hid hb1
  have HI := Lib.hid h
  have HOWN := Lib.hid own1
  have hw1 : wrap64 ((i : Int) + 1) = (i : Int) + 1 := by unfold wrap64; omega
  have hw2 : ((i : Int) + 1).toNat = i + 1 := by omega
  have hiz1 : (i : Int) + 1 ≤ (L.length : Int) := by omega
  have hlt1 : (L.take i).length = i := by rw [List.length_take, Nat.min_eq_left (by omega)]
  have hlt2 : (L.drop (i + 1)).length = L.length - (i + 1) := List.length_drop
  clear h hx x hg1 hb1 own1 hii hz0 hz1 hz2
  go_enter Try.func51, Try.ntmps51
  have hcm' : cap ≤ 9223372036854775807 := by unfold maxLen at hcm; omega
  have hic : i ≤ cap := by omega
  go_upto_region 3 with (first
    | (at_builtin; refine appS W1 rfl _ _ rfl w.heap.size _ 0 [] rfl (by exact HOWN.out) _ (L.take i) rfl (((HI.out.keep HB1.out).take (by omega) _ (by omega) (by omega))) (fun y hy => h1 y (List.mem_of_mem_take hy)) (by rw [hlt1]; omega) HB1.out.size ?_
       intro v2 w2 hown2 hb2
       have HB2 := Lib.hid (HB1.out.trans hb2)
       rw [Nat.zero_add, List.nil_append, hlt1] at hown2
       obtain ⟨ad2, cap2, hv2⟩ := owns_len hown2
       subst hv2
       have HO2 := Lib.hid hown2
       clear hown2 hb2)
    | fail)
  have HLE : Hid (i + (L.drop (i + 1)).length = (L.take i ++ L.drop (i + 1)).length) := by unfold Hid; rw [List.length_append, hlt1]
  by_cases hci : cap = i + 1
  · subst hci
    go_wp2_with (first
      | (at_builtin; refine appS _ rfl _ _ rfl w.heap.size _ _ _ rfl (by exact HO2.out) _ (L.drop (i + 1)) rfl (SmIn.zero (List.drop_eq_nil_of_le (by omega)) (by omega)) (fun y hy => h1 y (List.mem_of_mem_drop hy)) (by rw [hlt2]; omega) HB2.out.size ?_
         intro v3 w3 hown3 hb3
         have HB3 := Lib.hid (HB2.out.trans hb3)
         rw [← smFlat_app, HLE.out] at hown3
         have HO3 := Lib.hid hown3
         clear hown3 hb3)
      | fail)
    go_ret
    exact ⟨_, rfl, HO3.out, HB3.out⟩
  · have hci' : ¬ cap - (i + 1) = 0 := by omega
    go_wp2_with (first
      | (at_builtin; refine appS _ rfl _ _ rfl w.heap.size _ _ _ rfl (by exact HO2.out) _ (L.drop (i + 1)) rfl ((HI.out.keep HB2.out).drop _ (by omega) (by omega)) (fun y hy => h1 y (List.mem_of_mem_drop hy)) (by rw [hlt2]; omega) HB2.out.size ?_
         intro v3 w3 hown3 hb3
         have HB3 := Lib.hid (HB2.out.trans hb3)
         rw [← smFlat_app, HLE.out] at hown3
         have HO3 := Lib.hid hown3
         clear hown3 hb3)
      | fail)
    go_ret
    exact ⟨_, rfl, HO3.out, HB3.out⟩

end Go.Proofs.Ytjmggphnngffjaa
