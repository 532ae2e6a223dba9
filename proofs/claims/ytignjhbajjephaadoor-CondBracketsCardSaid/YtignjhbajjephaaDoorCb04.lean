/- Contract of the law CondBrackets. 'warder/warderlaw05.CondBrackets' returns true for every input and leaves its arguments as they were; no condition. The row lists package-level variables of Go's library with what they hold at the start; the card ties them to the program's text. -/
import Derived.Test.YtignjhbajjephaaDoorCb03
import Derived.Test.YtignjhbajjephaaDoorCb02
import Derived.Test.YtignjhbajjephaaDoorCards
import Derived.Test.YtignjhbajjephaaDoorTie
import Derived.Test.YtignjhbajjephaaDoorShelf
import Derived.WalkKit
import Derived.ProofKit
import Derived.OpenShut
import Derived.ChangeOld
import Derived.Below
import Derived.ShutString
import Derived.Deep.DeepHandedRow
import Derived.Lay
import Derived.Stop.Joined
import Derived.MakeChecks
import Derived.SizedLaws

namespace Go.Proofs.YtignjhbajjephaaDoor
open Go.RowKit

theorem whole_bad {s : ByteArray} {prop : Bool} {e l c : Int} (h : wholeP s prop = .bad e l c) : e ≠ 0 := by
  unfold wholeP at h
  split at h
  · rename_i q; simp only [PR.bad.injEq] at h; omega
  · cases hp : readP (tokRes s).T prop 0 with
    | bad e1 l1 c1 => rw [hp] at h; simp only [PR.bad.injEq] at h; have := readP_no hp; omega
    | ok o1 a1 =>
      rw [hp] at h
      dsimp only at h
      split at h
      · cases h
      · simp only [PR.bad.injEq] at h; omega
theorem whole_short {s : ByteArray} {prop : Bool} {o : List It} {a : Int} (h : wholeP s prop = .ok o a) : o.length ≤ 64 := by
  unfold wholeP at h
  split at h
  · cases h
  · cases hp : readP (tokRes s).T prop 0 with
    | bad e1 l1 c1 => rw [hp] at h; cases h
    | ok o1 a1 =>
      rw [hp] at h
      dsimp only at h
      split at h
      · obtain ⟨rfl, rfl⟩ := okB h
        unfold readP at hp
        split at hp
        · split at hp
          · cases hp
          · obtain ⟨rfl, rfl⟩ := okB hp; omega
        · cases hp
      · cases h

set_option maxRecDepth 100000 in
set_option maxHeartbeats 8000000 in
theorem lawBrackets_any (s : ByteArray) (prop : Bool) (w : World) (hm : MaxCell w) (hs : s.size ≤ 140737488351232) :
    Calls Tryd.prog 4 #[.string s, .bool prop] w fun e w' => e = .returned (.bool true) ∧ Below w.heap.size w w' := by
  have HM := Lib.hid hm
  have HZ : Hid (0 < w.heap.size) := by obtain ⟨m, hm⟩ := hm; exact World.block_lt_of_cell? w _ hm
  by_cases hbig : 3000 < s.size
  · have hbz : (3000 : Int) < s.size := by omega
    clear hm
    go_enter Tryd.func4, Tryd.ntmps4
    go_wp2_with fail
    refine (awake05 _ HM.out).mono ?_
    rintro e w2 ⟨rfl, hb2⟩
    go_wp2
    go_ret
    exact ⟨rfl, hb2⟩
  · have hbz : (s.size : Int) ≤ 3000 := by omega
    have hs1 : (⟨#[40, 10]⟩ ++ s : ByteArray).size = s.size + 2 := by rw [ByteArray.size_append]; show 2 + s.size = _; omega
    have hsz1 : (2 : Nat) + s.size ≤ 100000 := by omega
    have hsz2 : (⟨#[40, 10]⟩ ++ s : ByteArray).size + 2 ≤ 100000 := by omega
    have HW0 := Lib.hid (whole_any s prop w hm (by omega))
    have HW1 := Lib.hid (fun (W : World) (hW : Below w.heap.size w W) => whole_any (brk s) prop W (HM.out.below hW HZ.out) (by rw [brk_size]; omega))
    cases h0 : wholeP s prop with
    | bad e0 l0 c0 =>
      have hne := whole_bad h0
      have hb0 : (e0 == 0) = false := beq_eq_false_iff_ne.2 hne
      have hb0' : (e0 != 0) = true := by simp [bne, hb0]
      have HP0 := Lib.hid h0
      obtain ⟨p, hp⟩ : ∃ p, wholeP (brk s) prop = p := ⟨_, rfl⟩
      rw [hp] at HW1
      obtain ⟨a, ha⟩ : ∃ o, p.fe = o := ⟨_, rfl⟩
      obtain ⟨b, hb⟩ : ∃ o, p.fl = o := ⟨_, rfl⟩
      obtain ⟨c, hc⟩ : ∃ o, p.fc = o := ⟨_, rfl⟩
      have HP := Lib.hid (And.intro ha (And.intro hb hc))
      clear h0 hm hne hp ha hb hc
      go_enter Tryd.func4, Tryd.ntmps4
      go_wp2_with fail
      refine HW0.out.mono ?_
      rw [HP0.out]
      rintro e w1 ⟨rfl, hb1⟩
      have HB1 := Lib.hid (hb1.alloc hb1.size (.cells #[.int .i64 e0, .int .i64 l0, .int .i64 c0] 29))
      have HF0 := Lib.hid (show FtB (w1.alloc (.cells #[.int .i64 e0, .int .i64 l0, .int .i64 c0] 29)) w1.heap.size e0 l0 c0 from heap_alloc_new w1 _)
      clear hb1
      go_wp2_with fail
      rw [show (⟨#[40, 10]⟩ ++ s ++ ⟨#[10, 41]⟩ : ByteArray) = brk s from rfl]
      refine (HW1.out _ HB1.out).mono ?_
      intro e w2 hr
      obtain ⟨v1, rfl, hown, hb2⟩ := hr.all
      clear hr
      rw [HP.out.1, HP.out.2.1, HP.out.2.2]
      obtain ⟨ad1, cap1, hv⟩ := owns_len hown
      subst hv
      have HR1 := Lib.hid (ItRow.alloc ⟨_, hown⟩ (.cells #[.int .i64 a, .int .i64 b, .int .i64 c] 29))
      have HB2 := Lib.hid ((HB1.out.trans (hb2.mono HB1.out.size)).alloc (Nat.le_trans HB1.out.size hb2.size) (.cells #[.int .i64 a, .int .i64 b, .int .i64 c] 29))
      have HF0 := Lib.hid ((HF0.out.below hb2).alloc (.cells #[.int .i64 a, .int .i64 b, .int .i64 c] 29))
      have HF1 := Lib.hid (show FtB (w2.alloc (.cells #[.int .i64 a, .int .i64 b, .int .i64 c] 29)) w2.heap.size a b c from heap_alloc_new w2 _)
      clear hown hb2
      obtain ⟨p0, p1, p2⟩ := HF0.out.facts
      obtain ⟨q0, q1, q2⟩ := HF1.out.facts
      have hl0 := HF0.out.lt
      go_wp2_with fail
      refine (awake05 _ (HM.out.below HB2.out HZ.out)).mono ?_
      rintro e w9 ⟨rfl, hb9⟩
      have HB9 := Lib.hid (HB2.out.trans (hb9.mono HB2.out.size))
      clear hb9
      go_wp2
      go_ret
      exact ⟨rfl, HB9.out⟩
    | ok o a0 =>
      have hlo : o.length ≤ 5000 := by have := whole_short h0; omega
      have HP0 := Lib.hid h0
      rcases whole_B (by omega) h0 with ⟨o', a', h1, hbb⟩ | ⟨l1, c1, h1⟩
      · have HP1 := Lib.hid h1
        have HBB := Lib.hid (show o.map It.bare = o'.map It.bare from hbb.symm)
        clear h0 h1 hm hbb
        go_enter Tryd.func4, Tryd.ntmps4
        go_wp2_with fail
        refine HW0.out.mono ?_
        rw [HP0.out]
        rintro e w1 ⟨v0, rfl, hown, hb1⟩
        obtain ⟨ad0, cap0, hv⟩ := owns_len hown
        subst hv
        have HR0 := Lib.hid (ItRow.alloc ⟨_, hown⟩ (.cells #[.int .i64 0, .int .i64 0, .int .i64 0] 29))
        have HB1 := Lib.hid (hb1.alloc hb1.size (.cells #[.int .i64 0, .int .i64 0, .int .i64 0] 29))
        have HF0 := Lib.hid (show FtB (w1.alloc (.cells #[.int .i64 0, .int .i64 0, .int .i64 0] 29)) w1.heap.size 0 0 0 from heap_alloc_new w1 _)
        clear hown hb1
        go_wp2_with fail
        rw [show (⟨#[40, 10]⟩ ++ s ++ ⟨#[10, 41]⟩ : ByteArray) = brk s from rfl]
        refine (HW1.out _ HB1.out).mono ?_
        rw [HP1.out]
        rintro e w2 ⟨v1, rfl, hown, hb2⟩
        obtain ⟨ad1, cap1, hv⟩ := owns_len hown
        subst hv
        have HR1 := Lib.hid (ItRow.alloc ⟨_, hown⟩ (.cells #[.int .i64 0, .int .i64 0, .int .i64 0] 29))
        have HB2 := Lib.hid ((HB1.out.trans (hb2.mono HB1.out.size)).alloc (Nat.le_trans HB1.out.size hb2.size) (.cells #[.int .i64 0, .int .i64 0, .int .i64 0] 29))
        have HR0 := Lib.hid ((HR0.out.keep hb2).alloc (.cells #[.int .i64 0, .int .i64 0, .int .i64 0] 29))
        have HF0 := Lib.hid ((HF0.out.below hb2).alloc (.cells #[.int .i64 0, .int .i64 0, .int .i64 0] 29))
        have HF1 := Lib.hid (show FtB (w2.alloc (.cells #[.int .i64 0, .int .i64 0, .int .i64 0] 29)) w2.heap.size 0 0 0 from heap_alloc_new w2 _)
        clear hown hb2
        obtain ⟨p0, p1, p2⟩ := HF0.out.facts
        obtain ⟨q0, q1, q2⟩ := HF1.out.facts
        have hl0 := HF0.out.lt
        go_wp2_with fail
        refine (same_list HR0.out HR1.out hlo HBB.out).mono ?_
        rintro e w3 ⟨rfl, hb3⟩
        have HB3 := Lib.hid (HB2.out.trans (hb3.mono HB2.out.size))
        clear hb3
        go_wp2_with fail
        refine (awake05 _ (HM.out.below HB3.out HZ.out)).mono ?_
        rintro e w9 ⟨rfl, hb9⟩
        have HB9 := Lib.hid (HB3.out.trans (hb9.mono HB3.out.size))
        clear hb9
        go_wp2
        go_ret
        exact ⟨rfl, HB9.out⟩
      · have HP1 := Lib.hid h1
        clear h0 h1 hm
        go_enter Tryd.func4, Tryd.ntmps4
        go_wp2_with fail
        refine HW0.out.mono ?_
        rw [HP0.out]
        rintro e w1 ⟨v0, rfl, hown, hb1⟩
        obtain ⟨ad0, cap0, hv⟩ := owns_len hown
        subst hv
        have HR0 := Lib.hid (ItRow.alloc ⟨_, hown⟩ (.cells #[.int .i64 0, .int .i64 0, .int .i64 0] 29))
        have HB1 := Lib.hid (hb1.alloc hb1.size (.cells #[.int .i64 0, .int .i64 0, .int .i64 0] 29))
        have HF0 := Lib.hid (show FtB (w1.alloc (.cells #[.int .i64 0, .int .i64 0, .int .i64 0] 29)) w1.heap.size 0 0 0 from heap_alloc_new w1 _)
        clear hown hb1
        go_wp2_with fail
        rw [show (⟨#[40, 10]⟩ ++ s ++ ⟨#[10, 41]⟩ : ByteArray) = brk s from rfl]
        refine (HW1.out _ HB1.out).mono ?_
        rw [HP1.out]
        rintro e w2 ⟨rfl, hb2⟩
        have HB2 := Lib.hid ((HB1.out.trans (hb2.mono HB1.out.size)).alloc (Nat.le_trans HB1.out.size hb2.size) (.cells #[.int .i64 5, .int .i64 l1, .int .i64 c1] 29))
        have HR0 := Lib.hid ((HR0.out.keep hb2).alloc (.cells #[.int .i64 5, .int .i64 l1, .int .i64 c1] 29))
        have HF0 := Lib.hid ((HF0.out.below hb2).alloc (.cells #[.int .i64 5, .int .i64 l1, .int .i64 c1] 29))
        have HF1 := Lib.hid (show FtB (w2.alloc (.cells #[.int .i64 5, .int .i64 l1, .int .i64 c1] 29)) w2.heap.size 5 l1 c1 from heap_alloc_new w2 _)
        clear hb2
        obtain ⟨p0, p1, p2⟩ := HF0.out.facts
        obtain ⟨q0, q1, q2⟩ := HF1.out.facts
        have hl0 := HF0.out.lt
        go_wp2_with fail
        refine (awake05 _ (HM.out.below HB2.out HZ.out)).mono ?_
        rintro e w9 ⟨rfl, hb9⟩
        have HB9 := Lib.hid (HB2.out.trans (hb9.mono HB2.out.size))
        clear hb9
        go_wp2
        go_ret
        exact ⟨rfl, HB9.out⟩

end Go.Proofs.YtignjhbajjephaaDoor

namespace Go.Proofs.YtignjhbajjephaaDoor.condBrackets
open Go.ChangeShapes Go.WideShapes Go.ChangeAt Go.RowKit
open Go.ChangeMaps (open_string shut_string)

theorem own : ownKnob Tryd.prog.godebug = none := by kernel_rfl
theorem reads (os : Os) {H : Type} (enc : TypeId × Value → H) : ∃ places, DataW.whole enc Tryd.prog ((World.laidAll Tryd.prog os Rows.condBracketsRow.laid).forCall (fun _ _ => 0) ⟨#[], #[.string ⟨#[]⟩, .bool false], []⟩).memory Tryd.f4.params.toList Rows.condBracketsSpec.vars false #[Value.string ⟨#[]⟩, Value.bool false].toList 8 = some ([.lit (.string []), .lit (.bool false)], [], places) :=
  ⟨[], by kernel_rfl⟩
theorem okIn (os : Os) : Input.okWideB Tryd.prog ((World.laidAll Tryd.prog os Rows.condBracketsRow.laid).forCall (fun _ _ => 0) ⟨#[], #[.string ⟨#[]⟩, .bool false], []⟩) 4 ⟨#[], #[.string ⟨#[]⟩, .bool false], []⟩ = true := by kernel_rfl
theorem laid_met (os : Os) : laidMetH Tryd.prog Rows.condBracketsRow.laid ((World.laidAll Tryd.prog os Rows.condBracketsRow.laid).forCall (fun _ _ => 0) ⟨#[], #[.string ⟨#[]⟩, .bool false], []⟩).memory := by
  rw [MakeChecks.laidMetH_plain _ _ _ (by kernel_rfl)]; exact laidMet_laidAll _ (by kernel_rfl) (by kernel_rfl)

set_option maxRecDepth 100000 in
theorem lifted (os : Os) (started : os.Started) (H : Type) (enc : TypeId × Value → H) (F : Stop.Interp) :
    ReturnsInHanded {} Tryd.checked os 4 .any ((OpenSpec.ofChange Rows.condBracketsSpec).preRow enc Tryd.prog Tryd.f4 Rows.condBracketsRow.domain false Rows.condBracketsRow.laid) (((OpenSpec.ofChange Rows.condBracketsSpec).at F).post enc Tryd.prog Tryd.f4 false true false false) := by
  obtain ⟨places, hx⟩ := reads os enc
  refine returnsInHanded_of_row (C := Tryd.checked) (s := OpenSpec.ofChange Rows.condBracketsSpec) own started (by kernel_rfl) Tryd.func4
    ⟨World.laidAll Tryd.prog os Rows.condBracketsRow.laid, fun _ _ => 0, ⟨#[], #[.string ⟨#[]⟩, .bool false], []⟩, World.laidAll_os _ _ _, World.shaped_of_ZipB (by kernel_rfl) (by kernel_rfl), (Input.okWide_of_okWideB (base := 0) (okIn os)).1, (Input.okWide_of_okWideB (okIn os)).2,
      OpenSpec.preRow_of_cond 8 hx (by kernel_rfl) (fun k hk => by cases hk) (by kernel_rfl) (laid_met os), by
        simp only [Assume.holds]
        exact ⟨by simp, by simp, fun _ => Modest.zero, by simp, by simp⟩⟩ ?_
  intro W base args ds gs before hval0 hW _ _ hsz _ hsh _
  obtain ⟨m, hm⟩ := Tryd.laysM144.s1_3 W hsh
  have hval : ∀ (j : Nat) t v, Tryd.f4.params[j]? = some t → args[j]? = some v → Value.okWide Tryd.prog W .any base t v := hval0
  have hW' := hW
  obtain ⟨p, q, hA0, hV, rfl, hfz, hnd⟩ := hW
  have hA : DataW.TrodAll enc Tryd.prog W 0 (fun _ => true) true Tryd.f4.params.toList args.toList ds p := hA0
  rw [Tryd.params4] at hA hval hsz
  obtain ⟨v0, vs0, d0, ds0, p0, q0, hargs, rfl, rfl, h0, r0⟩ := trodAll_cons hA
  obtain ⟨v1, vs1, d1, ds1, p1, q1, rfl, rfl, rfl, h1, r1⟩ := trodAll_cons r0
  obtain ⟨rfl, rfl, rfl⟩ := trodAll_nil r1
  obtain rfl : args = #[v0, v1] := by cases args; simp_all
  obtain ⟨rfl, rfl⟩ := trodVars_none hV
  obtain ⟨a0, rfl, rfl, rfl, w0⟩ := open_string Tryd.underlying9 (hval 0 9 v0 rfl rfl) h0
  obtain ⟨b, rfl, rfl, rfl⟩ := open_bool Tryd.underlying4 (hval 1 4 v1 rfl rfl) h1
  clear hA0 hval0
  have w1 : a0.size ≤ 140737488351232 := by
    have := sized_string hsz (j := 0) (t := 9) (bytes := a0.data.toList) rfl rfl
    simpa [reachBytes] using this
  simp only [List.append_nil] at hW'
  refine (lawBrackets_any a0 b W ⟨m, hm⟩ w1).mono fun e W' ⟨he, hg⟩ => ?_
  subst he
  exact ⟨_, rfl, _, _, _, [], [], [], hW', (trodAll_cons_mk (shut_bool Tryd.underlying4 _) trodAll_mk0), (trodAll_cons_mk (shut_string Tryd.underlying9 w0) (trodAll_cons_mk (shut_bool Tryd.underlying4 _) trodAll_mk0)), rfl, hg.frame _, fun h => by cases h⟩

theorem said : Rows.CondBracketsSaid :=
  OpenClaim.holds_of_cond 4 Tryd.f4 rfl rfl rfl rfl rfl rfl rfl ⟨rfl, rfl, rfl, rfl, rfl⟩ rfl rfl rfl rfl rfl (by kernel_rfl) Tryd.func4 (by kernel_rfl)
    (of_decide_eq_true (by kernel_rfl)) (by unfold Func.isWrapper; first | (rw [if_pos (by decide +kernel)]; kernel_rfl) | (rw [if_neg (by decide +kernel)]; exact ⟨rfl, rfl⟩))
    (fun os started H enc _ F => by rw [OpenClaim.pre_eq_preRow]; exact lifted os started H enc F)

theorem plain (f : FuncId) (fn : Func) (hf : Tryd.pinned.checked.prog.funcNamed "warder/warderlaw05.CondBrackets" = some f) (hfn : Tryd.pinned.checked.prog.funcs[f]? = some fn) :
    false = Tryd.pinned.checked.prog.looks [] ∧ ∀ (j : Nat) t, fn.params[j]? = some t → Tryd.pinned.checked.prog.wantsStandIn t = false := by
  obtain rfl : f = 4 := Option.some.inj ((show Tryd.prog.funcNamed "warder/warderlaw05.CondBrackets" = some 4 by kernel_rfl).symm.trans hf) |>.symm
  obtain rfl : fn = Tryd.f4 := (Option.some.inj (Tryd.func4.symm.trans hfn)).symm
  refine ⟨by kernel_rfl, fun j t ht => ?_⟩
  rw [Tryd.params4] at ht
  have h3 : t = 9 ∨ t = 4 := by simpa using Array.mem_of_getElem? ht
  rcases h3 with rfl | rfl
  · exact (show Tryd.prog.wantsStandIn 9 = false by kernel_rfl)
  · exact (show Tryd.prog.wantsStandIn 4 = false by kernel_rfl)

/-- THE CARD -/
theorem proved : Rows.CondBracketsCardSaid :=
  Claim7.holds_tied_plain_at .later [] _ _ _ _ said (fun _ h => by cases h) (by kernel_rfl) (fun _ h => by cases h) condBrackets_row_tie rfl ⟨rfl, rfl⟩ (by kernel_rfl) rfl plain (by kernel_rfl)
end Go.Proofs.YtignjhbajjephaaDoor.condBrackets
