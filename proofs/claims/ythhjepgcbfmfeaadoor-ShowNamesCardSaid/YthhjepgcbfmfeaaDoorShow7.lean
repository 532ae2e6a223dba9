/- Contract of show's Formula. -/
import Derived.Test.YthhjepgcbfmfeaaDoorShow6
namespace Go.Proofs.YthhjepgcbfmfeaaDoor
open Go.RowKit

theorem formR_bad {O : List It} (h : chkN O ≠ 0) : formR O = (nil8, chkN O) := by unfold formR; rw [if_pos h]
theorem formR_unnamed {O : List It} (h : chkN O = 0) {x : It} (hx : x ∈ O) (hn : namedB x = false) : formR O = (nil8, 17) := by
  unfold formR
  rw [if_neg (by omega), if_pos]
  refine Bool.eq_false_iff.2 fun ha => ?_
  rw [List.all_eq_true] at ha
  rw [ha x hx] at hn; cases hn
theorem formR_ok {O : List It} (h : chkN O = 0) (hn : O.all namedB = true) {f : Fm} (hf : treeF O = some f) : formR O = (textF f, 0) := by
  unfold formR; rw [if_neg (by omega), if_neg (by rw [hn]; decide), hf]
theorem chk_tree {O : List It} (h : chkN O = 0) : ∃ f, treeF O = some f := by
  obtain ⟨_, _, f, hf⟩ := chk_ok h
  exact ⟨f, by rw [← hf]; exact treeF_of f⟩
theorem push_some {O : List It} {f : Fm} (hf : treeF O = some f) {k : Nat} {R : List Fm} {x : It} (hk : O[k]? = some x) (hP : buildF (O.drop k) R = buildF O []) : ∃ S, pushF x R = some S := by
  cases hp : pushF x R with
  | some S => exact ⟨S, rfl⟩
  | none => rw [treeF_none hk hP hp] at hf; cases hf
theorem smallR_of {O : List It} (hs : ∀ x ∈ O, Short x) (hl : O.length ≤ 64) {R : List Fm} {k : Nat} (hR : flats R = O.take k) : SmallR R := by
  intro f hf
  have hsub : ∀ x ∈ f.flat, x ∈ O := by
    intro x hx
    have : x ∈ flats R := by
      unfold flats
      exact List.mem_flatMap.2 ⟨f, List.mem_reverse.2 hf, hx⟩
    rw [hR] at this
    exact List.mem_of_mem_take this
  have hlen : f.flat.length ≤ 64 := by
    have h2 : (flats R).length ≤ 64 := by rw [hR, List.length_take]; omega
    have h3 : ∀ (S : List Fm), f ∈ S → f.flat.length ≤ (S.flatMap Fm.flat).length := by
      intro S hS
      induction S with
      | nil => cases hS
      | cons a S ih =>
        rw [List.flatMap_cons, List.length_append]
        rcases List.mem_cons.1 hS with rfl | h
        · omega
        · have := ih h; omega
    have := h3 R.reverse (List.mem_reverse.2 hf)
    have h4 : (flats R).length = (R.reverse.flatMap Fm.flat).length := rfl
    omega
  have := textF_size f (fun x hx => hs x (hsub x hx))
  omega
theorem take_all {O : List It} {k : Nat} {x : It} (h : (O.take k).all namedB = true) (hk : O[k]? = some x) (hx : namedB x = true) : (O.take (k + 1)).all namedB = true := by
  rw [List.take_add_one, hk, List.all_append, h]; simp [hx]
theorem take_flats {O : List It} {k : Nat} {x : It} {R S : List Fm} (h : flats R = O.take k) (hk : O[k]? = some x) (hp : pushF x R = some S) : flats S = O.take (k + 1) := by
  rw [pushF_flat hp, h, List.take_add_one, hk]; rfl

set_option maxRecDepth 100000 in
set_option maxHeartbeats 4000000 in
theorem formula_any {w : World} (ht : Tabs w) {v : Value} {O : List It} (h : ItIn w v O) (hs : ∀ x ∈ O, Short x) :
    Calls Tryd.prog 7 #[v] w fun e w' => e = .returned (.tuple #[.string (formR O).1, .int .i64 (formR O).2]) ∧ Below w.heap.size w w' := by
  obtain ⟨ad, cap, hv⟩ := h.len
  subst hv
  have HC := Lib.hid (check_all h)
  by_cases hc : chkN O = 0
  · obtain ⟨f, hf⟩ := chk_tree hc
    obtain ⟨hl0, hl64, _⟩ := chk_ok hc
    have HF := Lib.hid hf; have HCK := Lib.hid hc
    have HR := Lib.hid h; have HT := Lib.hid ht; have HSH := Lib.hid hs
    obtain ⟨tx, htx⟩ : ∃ t, (formR O).1 = t := ⟨_, rfl⟩
    obtain ⟨er, her⟩ : ∃ t, (formR O).2 = t := ⟨_, rfl⟩
    have HFR := Lib.hid (show formR O = (tx, er) by rw [← htx, ← her])
    rw [htx, her]
    rw [hc] at HC
    clear h hs ht hf hc htx her
    go_enter Tryd.func7, Tryd.ntmps7
    go_wp2_with fail
    refine HC.out.mono ?_
    rintro e w1 ⟨rfl, hb1⟩
    have HB1 := Lib.hid hb1
    clear hb1
    go_wp2
    go_loopw [5, 17] (fun rv i wr => ∃ (k : Nat) (R : List Fm), i = .int .i64 k ∧ k ≤ O.length ∧ R.length ≤ k ∧ Hid (buildF (O.drop k) R = buildF O [] ∧ flats R = O.take k ∧ (O.take k).all namedB = true ∧ HRow wr w.heap.size rv R ∧ Below w.heap.size w wr)) (fun _ i _ => O.length - (intOf i).toNat)
    case atStart => exact ⟨0, [], by go_num, by omega, by simp, rfl, by simp [flats], by simp, World.ownsRow_nil _ _ _ _, HB1.out⟩
    case round =>
      obtain ⟨k, R, rfl, hk, hnk, HALL⟩ := hrel
      obtain ⟨hP, hfl, hnm, hrow, hB⟩ := HALL.out
      by_cases hlt : k < O.length
      · obtain ⟨x, hx⟩ : ∃ x, O[k]? = some x := ⟨_, List.getElem?_eq_getElem hlt⟩
        have hxm : x ∈ O := List.mem_of_getElem? hx
        obtain ⟨S, hp⟩ := push_some HF.out hx hP
        obtain ⟨g, off, c1, hg, hgl, a0, a1, a2, a3, a4, a5, a6, a7, a8⟩ := (HR.out.keep hB).at hx
        simp only [Value.slice.injEq, true_and] at hg
        obtain ⟨rfl, rfl⟩ := hg
        have hwr : Below wr.heap.size wr (wr.alloc (.cells #[.int .i64 x.op, .string x.ln, .int .i64 x.lnum, .string x.rn, .int .i64 x.rnum, .string x.name, .string x.user, .int .i64 x.line, .int .i64 x.col] 36)) := (Below.refl _ _).alloc (Nat.le_refl _) _
        have hib : Blk (wr.alloc (.cells #[.int .i64 x.op, .string x.ln, .int .i64 x.lnum, .string x.rn, .int .i64 x.rnum, .string x.name, .string x.user, .int .i64 x.line, .int .i64 x.col] 36)) wr.heap.size #[.int .i64 x.op, .string x.ln, .int .i64 x.lnum, .string x.rn, .int .i64 x.rnum, .string x.name, .string x.user, .int .i64 x.line, .int .i64 x.col] 36 := Blk.new _ _ _
        obtain ⟨p0, p1, p2, p3, p4, p5, p6, p7, p8⟩ := hib.nine
        have hT1 : Tabs wr := HT.out.keep hB
        have HP := Lib.hid (put_all (hT1.keep hwr) (owns_below hrow hwr) (by have := hB.size; simp; omega) (by omega) (smallR_of HSH.out hl64 hfl) x (HSH.out x hxm) hp)
        have HB := Lib.hid (hB.alloc hB.size (.cells #[.int .i64 x.op, .string x.ln, .int .i64 x.lnum, .string x.rn, .int .i64 x.rnum, .string x.name, .string x.user, .int .i64 x.line, .int .i64 x.col] 36))
        have HN := Lib.hid (And.intro (buildF_next hx hP hp) (take_flats hfl hx hp))
        have hsl : S.length ≤ k + 1 := by have := pushF_len hp; omega
        have hkz : (k : Int) < (O.length : Int) := by omega
        obtain ⟨adv, capv, hvv⟩ := owns_len hrow
        subst hvv
        unfold itVal at HP
        cases hnx : namedB x
        · have HE := Lib.hid (formR_unnamed HCK.out hxm hnx)
          rw [HFR.out] at HE
          rw [hnx] at HP
          clear hP hfl hnm hrow hB hx hxm hp hib HALL hnx hwr hT1
          go_wp2_with fail
          refine HP.out.mono ?_
          rintro e w2 ⟨v2, rfl, hr2, hb2⟩
          have HB2 := Lib.hid (HB.out.trans hb2)
          clear hr2 hb2
          go_wp2
          refine bodyPost_ret (v := .tuple #[.string ⟨#[]⟩, .int .i64 17]) (by simp [results, Tryd.results7, go_sem]) rfl ?_
          exact ⟨by have e := HE.out; simp only [Prod.mk.injEq] at e; rw [e.1, e.2]; rfl, HB2.out⟩
        · have HA := Lib.hid (take_all hnm hx hnx)
          rw [hnx] at HP
          clear hP hfl hnm hrow hB hx hxm hp hib HALL hnx hwr hT1
          go_wp2_with fail
          refine HP.out.mono ?_
          rintro e w2 ⟨v2, rfl, hr2, hb2⟩
          have HB2 := Lib.hid (And.intro hr2 (HB.out.trans hb2))
          clear hr2 hb2
          go_wp2
          go_roundw
          case rel => exact ⟨k + 1, S, by go_num, by omega, hsl, HN.out.1, HN.out.2, HA.out, HB2.out.1, HB2.out.2⟩
          case measure => simp [intOf]; omega
      · have hkl : k = O.length := by omega
        subst hkl
        have htr := treeF_end hP
        rw [HF.out] at htr
        match R, htr, hrow with
        | [f'], htr, hrow =>
          obtain rfl : f = f' := by simpa [oneFm] using htr
          rw [List.take_length] at hnm
          have HE := Lib.hid (formR_ok HCK.out hnm HF.out)
          rw [HFR.out] at HE
          unfold HRow at hrow
          have hrow2 := hrow
          change wr.ownsRow w.heap.size 44 2 _ 1 [.int .i64 (tightN f.op), .string (textF f)] at hrow2
          obtain ⟨g, cp, hv, hg, hgs⟩ := owns_shape hrow2 (by decide)
          subst hv
          have c1 := (World.ownsRow.cellAt hrow2 1 (by decide))
          have c1' : wr.cell? ⟨g, 1, none⟩ = some (.string (textF f)) := c1
          have HB := Lib.hid hB
          obtain ⟨ft, hft⟩ : ∃ t, textF f = t := ⟨_, rfl⟩
          rw [hft] at HE c1'
          clear hP hfl hnm hrow hrow2 hB HALL htr c1 hft
          go_wp2
          refine bodyPost_ret (v := .tuple #[.string ft, .int .i64 0]) (by simp [results, Tryd.results7, go_sem]) rfl ?_
          exact ⟨by have e := HE.out; simp only [Prod.mk.injEq] at e; rw [e.1, e.2], HB.out⟩
        | [], htr, _ => cases htr
        | f' :: g :: S, htr, _ => cases htr
  · have HE := formR_bad hc
    rw [HE]
    obtain ⟨c, hcc⟩ : ∃ c, chkN O = c := ⟨_, rfl⟩
    rw [hcc] at HC hc ⊢
    have hne : (c != 0) = true := bne_iff_ne.2 hc
    clear h HE hcc hs ht hc
    go_enter Tryd.func7, Tryd.ntmps7
    go_wp2_with fail
    refine HC.out.mono ?_
    rintro e w1 ⟨rfl, hb1⟩
    go_wp2
    go_ret2
    exact ⟨rfl, hb1⟩

end Go.Proofs.YthhjepgcbfmfeaaDoor
