/- Arguments of PickVals: numbers and constants, a zone with its writes, a list of ints. 'warder/warderlaw36.PickVals' returns true for every input and leaves its arguments as they were; no condition. The row lists package-level variables of Go's library with what they hold at the start; the card ties them to the program's text. -/
import Derived.Test.YtkkoooagamadjaaGreatDoorPk12
import Derived.Test.YtkkoooagamadjaaGreatDoorPk49
import Derived.Test.YtkkoooagamadjaaGreatDoorCards
import Derived.Test.YtkkoooagamadjaaGreatDoorTie
import Derived.Test.YtkkoooagamadjaaGreatDoorShelf
import Derived.WalkKit
import Derived.ProofKit
import Derived.OpenShut
import Derived.ChangeOld
import Derived.Below
import Derived.ShutString
import Derived.Deep.DeepHandedRow
import Derived.Lay
import Derived.Stop.Joined
import Derived.Stop.LaidErr
import Derived.MakeChecks
import Derived.SizedLaws

namespace Go.Proofs.YtkkoooagamadjaaGreatDoor
open Go.RowKit Go.ChangeShapes Go.WideShapes Go.Deep

section
variable {H : Type} {enc : TypeId × Value → H} {w : World} {base : Nat} {sp : Nat → Bool} {hd : Bool}
theorem celp_nums : Tryz.prog.cellsOf 36 = 3 := by kernel_rfl
theorem celp_zone : Tryz.prog.cellsOf 38 = 3 := by kernel_rfl
theorem celp_is64 : Tryz.prog.cellsOf 22 = 1 := by kernel_rfl
theorem open_ints {fuel : Nat} {v : Value} {x : DataW H × List MemPlace} (h : DataW.trod enc Tryz.prog w base sp hd fuel 26 [v] = some x) : ∃ T : List Int, RowE intE 1 w v T ∧ ∀ n ∈ T, -9223372036854775808 ≤ n ∧ n ≤ 9223372036854775807 := by
  obtain ⟨T, hr, hp⟩ := open_rowE intE 1 (fun n => -9223372036854775808 ≤ n ∧ n ≤ 9223372036854775807) Tryz.underlying26 celz_int (by decide) (fun fuel cs x _ h => by
    obtain ⟨a, ha, _, wf⟩ := DataW.trod_int Tryz.underlying3 h
    exact ⟨a, ha, bounds_i64 wf⟩) h
  exact ⟨T, hr, hp⟩
theorem RowE.capv {w : World} {v : Value} {T : List Int} (h : RowE intE 1 w v T) : CapV v := by
  obtain ⟨ad, cap, rfl, ⟨_, hle, _⟩, _⟩ := h
  intro ad' n c e
  cases e
  exact hle

set_option maxRecDepth 100000 in
theorem open_nums {fuel : Nat} {cs : List Value} {x : DataW H × List MemPlace} (h : DataW.trod enc Tryz.prog w base sp hd fuel 36 cs = some x) :
    ∃ (a : Int) (v1 v2 : Value) (l1 l2 : List Int), cs = [.int .i64 a, v1, v2] ∧ RowE intE 1 w v1 l1 ∧ RowE intE 1 w v2 l2 ∧ (∀ n ∈ l1, In64 n) ∧ ∀ n ∈ l2, In64 n := by
  obtain ⟨xs, n, _, _, hlen, hxl, hf⟩ := DataW.trod_struct Tryz.underlying36 h
  rw [celp_nums] at hlen
  match cs, hlen with
  | [v0, v1, v2], _ =>
    have hx0 := List.getElem?_eq_getElem (show 0 < xs.length by rw [hxl]; decide)
    have hx1 := List.getElem?_eq_getElem (show 1 < xs.length by rw [hxl]; decide)
    have hx2 := List.getElem?_eq_getElem (show 2 < xs.length by rw [hxl]; decide)
    have g0 : DataW.trod enc Tryz.prog w base sp hd n 3 (([v0, v1, v2].drop 0).take (Tryz.prog.cellsOf 3)) = xs[0]? := hf 0 _ rfl
    have g1 : DataW.trod enc Tryz.prog w base sp hd n 22 (([v0, v1, v2].drop 1).take (Tryz.prog.cellsOf 22)) = xs[1]? := hf 1 _ rfl
    have g2 : DataW.trod enc Tryz.prog w base sp hd n 22 (([v0, v1, v2].drop 2).take (Tryz.prog.cellsOf 22)) = xs[2]? := hf 2 _ rfl
    rw [hx0] at g0; rw [hx1] at g1; rw [hx2] at g2
    simp only [celz_int, celp_is64, List.drop, List.take] at g0 g1 g2
    obtain ⟨a, e0, _, w0⟩ := DataW.trod_int Tryz.underlying3 g0
    obtain ⟨l1, r1, n1⟩ := open_i64s g1
    obtain ⟨l2, r2, n2⟩ := open_i64s g2
    simp only [List.cons.injEq, and_true] at e0
    exact ⟨a, v1, v2, l1, l2, by rw [e0], r1, r2, n1, n2⟩

set_option maxRecDepth 100000 in
theorem open_zoneR {fuel : Nat} {cs : List Value} {x : DataW H × List MemPlace} (h : DataW.trod enc Tryz.prog w base sp hd fuel 38 cs = some x) :
    ∃ (v1 v2 : Value) (z : Zn) (r : Int), cs = [v1, v2, .int .i64 r] ∧ ZoneIn w v1 v2 z.1 z.2 ∧ In64 r := by
  obtain ⟨xs, n, _, _, hlen, hxl, hf⟩ := DataW.trod_struct Tryz.underlying38 h
  rw [celp_zone] at hlen
  match cs, hlen with
  | [v0, v1, v2], _ =>
    have hx0 := List.getElem?_eq_getElem (show 0 < xs.length by rw [hxl]; decide)
    have hx1 := List.getElem?_eq_getElem (show 1 < xs.length by rw [hxl]; decide)
    have g0 : DataW.trod enc Tryz.prog w base sp hd n 28 (([v0, v1, v2].drop 0).take (Tryz.prog.cellsOf 28)) = xs[0]? := hf 0 _ rfl
    have g1 : DataW.trod enc Tryz.prog w base sp hd n 3 (([v0, v1, v2].drop 2).take (Tryz.prog.cellsOf 3)) = xs[1]? := hf 1 _ rfl
    rw [hx0] at g0; rw [hx1] at g1
    simp only [celz_zone, celz_int, List.drop, List.take] at g0 g1
    obtain ⟨u1, u2, cl, gl, e0, hz, -, -, -⟩ := open_zone g0
    obtain ⟨r, e1, _, w1⟩ := DataW.trod_int Tryz.underlying3 g1
    simp only [List.cons.injEq, and_true] at e0 e1
    obtain ⟨rfl, rfl⟩ := e0
    exact ⟨v0, v1, (cl, gl), r, by rw [e1], hz, bounds_i64 w1⟩
end

end Go.Proofs.YtkkoooagamadjaaGreatDoor

namespace Go.Proofs.YtkkoooagamadjaaGreatDoor.pickVals
open Go.ChangeShapes Go.WideShapes Go.ChangeAt Go.RowKit
open Go.ChangeMaps (open_string shut_string)

theorem own : ownKnob Tryz.prog.godebug = none := by kernel_rfl
theorem reads (os : Os) {H : Type} (enc : TypeId × Value → H) : ∃ places, DataW.whole enc Tryz.prog ((World.laidAll Tryz.prog os Rows.pickValsRow.laid).forCall (fun _ _ => 0) ⟨#[], #[.agg #[.int .i64 0, .slice none 0 0, .slice none 0 0], .slice none 0 0, .agg #[.slice none 0 0, .slice none 0 0, .int .i64 0]], []⟩).memory Tryz.f4.params.toList Rows.pickValsSpec.vars false #[Value.agg #[.int .i64 0, .slice none 0 0, .slice none 0 0], Value.slice none 0 0, Value.agg #[.slice none 0 0, .slice none 0 0, .int .i64 0]].toList 8 = some ([.agg [.lit (.int .i64 0), .nil, .nil], .nil, .agg [.agg [.nil, .nil], .lit (.int .i64 0)]], [], places) :=
  ⟨[], by kernel_rfl⟩
theorem okIn (os : Os) : Input.okWideB Tryz.prog ((World.laidAll Tryz.prog os Rows.pickValsRow.laid).forCall (fun _ _ => 0) ⟨#[], #[.agg #[.int .i64 0, .slice none 0 0, .slice none 0 0], .slice none 0 0, .agg #[.slice none 0 0, .slice none 0 0, .int .i64 0]], []⟩) 4 ⟨#[], #[.agg #[.int .i64 0, .slice none 0 0, .slice none 0 0], .slice none 0 0, .agg #[.slice none 0 0, .slice none 0 0, .int .i64 0]], []⟩ = true := by kernel_rfl
theorem laid_met (os : Os) : laidMetH Tryz.prog Rows.pickValsRow.laid ((World.laidAll Tryz.prog os Rows.pickValsRow.laid).forCall (fun _ _ => 0) ⟨#[], #[.agg #[.int .i64 0, .slice none 0 0, .slice none 0 0], .slice none 0 0, .agg #[.slice none 0 0, .slice none 0 0, .int .i64 0]], []⟩).memory := by
  rw [MakeChecks.laidMetH_plain _ _ _ (by kernel_rfl)]; exact laidMet_laidAll _ (by kernel_rfl) (by kernel_rfl)

set_option maxRecDepth 100000 in
theorem lifted (os : Os) (started : os.Started) (H : Type) (enc : TypeId × Value → H) (F : Stop.Interp) :
    ReturnsInHanded {} Tryz.checked os 4 .any ((OpenSpec.ofChange Rows.pickValsSpec).preRow enc Tryz.prog Tryz.f4 Rows.pickValsRow.domain false Rows.pickValsRow.laid) (((OpenSpec.ofChange Rows.pickValsSpec).at F).post enc Tryz.prog Tryz.f4 false true false false) := by
  obtain ⟨places, hx⟩ := reads os enc
  refine returnsInHanded_of_row (C := Tryz.checked) (s := OpenSpec.ofChange Rows.pickValsSpec) own started (by kernel_rfl) Tryz.func4
    ⟨World.laidAll Tryz.prog os Rows.pickValsRow.laid, fun _ _ => 0, ⟨#[], #[.agg #[.int .i64 0, .slice none 0 0, .slice none 0 0], .slice none 0 0, .agg #[.slice none 0 0, .slice none 0 0, .int .i64 0]], []⟩, World.laidAll_os _ _ _, World.shaped_of_ZipB (by kernel_rfl) (by kernel_rfl), (Input.okWide_of_okWideB (base := 0) (okIn os)).1, (Input.okWide_of_okWideB (okIn os)).2,
      OpenSpec.preRow_of_cond 8 hx (by kernel_rfl) (fun k hk => by cases hk) (by kernel_rfl) (laid_met os), by
        simp only [Assume.holds]
        exact ⟨by simp, by simp, fun _ => Modest.zero, by simp, by simp⟩⟩ ?_
  intro W base args ds gs before hval0 hW _ _ hsz hlaid hsh _
  have hl1 : laidMet Tryz.prog Rows.pickValsRow.laid W := by
    rw [MakeChecks.laidMetH_plain _ _ _ (by kernel_rfl)] at hlaid
    exact hlaid
  have HPOW : Lib.TabIs Tryz.prog W "internal/strconv.uint64pow10" .u64 Lib.pow10Tab := (Lib.tabIs_of_head (n := 20) (show Tryz.prog.globalNamed "internal/strconv.uint64pow10" = some 0 by kernel_rfl) (show (Tryz.prog.globals[0]?).map (·.type) = some 185 by kernel_rfl) (show Tryz.prog.underlying 185 = some (.array 20 72) by kernel_rfl) (show Tryz.prog.underlying 72 = some (.int .u64) by kernel_rfl) (by kernel_rfl) (by kernel_rfl)
      (rest := (Rows.pickValsRow.laid.drop 3)) (show laidMet Tryz.prog (("internal/strconv.uint64pow10", Lib.tabData .u64 Lib.pow10Tab) :: Rows.pickValsRow.laid.drop 3) W from by rw [show ((("internal/strconv.uint64pow10", Lib.tabData .u64 Lib.pow10Tab) : String × DataW Unit) :: Rows.pickValsRow.laid.drop 3) = Rows.pickValsRow.laid.drop 2 by kernel_rfl]; exact hl1.tail.tail))

  have HT : PTab W := HPOW
  have hval : ∀ (j : Nat) t v, Tryz.f4.params[j]? = some t → args[j]? = some v → Value.okWide Tryz.prog W .any base t v := hval0
  have hW' := hW
  obtain ⟨p, q, hA0, hV, rfl, hfz, hnd⟩ := hW
  have hA : DataW.TrodAll enc Tryz.prog W 0 (fun _ => true) true Tryz.f4.params.toList args.toList ds p := hA0
  rw [Tryz.params4] at hA hval hsz
  obtain ⟨v0, vs0, d0, ds0, p0, q0, hargs, rfl, rfl, h0, r0⟩ := trodAll_cons hA
  obtain ⟨v1, vs1, d1, ds1, p1, q1, rfl, rfl, rfl, h1, r1⟩ := trodAll_cons r0
  obtain ⟨v2, vs2, d2, ds2, p2, q2, rfl, rfl, rfl, h2, r2⟩ := trodAll_cons r1
  obtain ⟨rfl, rfl, rfl⟩ := trodAll_nil r2
  obtain rfl : args = #[v0, v1, v2] := by cases args; simp_all
  obtain ⟨rfl, rfl⟩ := trodVars_none hV
  obtain ⟨xs0, rfl, hxs0⟩ := okWide_struct Tryz.underlying36 (hval 0 36 v0 rfl rfl)
  have k0 := h0
  have lt0 : ∀ x ∈ p0, x.block < W.heap.size := by obtain ⟨m, hm⟩ := k0; exact DataW.trod_lt m _ _ _ hm
  obtain ⟨A0, u0_0, u0_1, L0, M0, hcs0, R0, S0, N0, P0⟩ : ∃ (a : Int) (m0 m1 : Value) (l0 l1 : List Int), xs0 = #[.int .i64 a, m0, m1] ∧ RowE intE 1 W m0 l0 ∧ RowE intE 1 W m1 l1 ∧ (∀ n ∈ l0, In64 n) ∧ ∀ n ∈ l1, In64 n := by
    obtain ⟨fuel, hf⟩ := h0
    obtain ⟨a, m0, m1, l0, l1, hc, h1, h2, h3, h4⟩ := open_nums hf
    exact ⟨a, m0, m1, l0, l1, by apply Array.toList_inj.1; exact hc, h1, h2, h3, h4⟩
  subst hcs0
  obtain ⟨ad1, len1, cap1, rfl⟩ := okWide_slice Tryz.underlying26 (hval 1 26 v1 rfl rfl)
  have k1 := h1
  have lt1 : ∀ x ∈ p1, x.block < W.heap.size := by obtain ⟨m, hm⟩ := k1; exact DataW.trod_lt m _ _ _ hm
  obtain ⟨T1, R1, N1⟩ := (show ∃ T : List Int, RowE intE 1 W (.slice ad1 len1 cap1) T ∧ ∀ n ∈ T, -9223372036854775808 ≤ n ∧ n ≤ 9223372036854775807 by obtain ⟨fuel, hf⟩ := h1; exact open_ints hf)
  obtain ⟨xs2, rfl, hxs2⟩ := okWide_struct Tryz.underlying38 (hval 2 38 v2 rfl rfl)
  have k2 := h2
  have lt2 : ∀ x ∈ p2, x.block < W.heap.size := by obtain ⟨m, hm⟩ := k2; exact DataW.trod_lt m _ _ _ hm
  obtain ⟨u2_0, u2_1, Z2, i2, hcs2, R2, N2⟩ : ∃ (m0 m1 : Value) (z : Zn) (r : Int), xs2 = #[m0, m1, .int .i64 r] ∧ ZoneIn W m0 m1 z.1 z.2 ∧ In64 r := by
    obtain ⟨fuel, hf⟩ := h2
    obtain ⟨m0, m1, z, r, hc, h1, h2⟩ := open_zoneR hf
    exact ⟨m0, m1, z, r, by apply Array.toList_inj.1; exact hc, h1, h2⟩
  subst hcs2
  clear hA0 hval0
  simp only [List.append_nil] at hW'
  refine (pickVals_any HT (Reads.of_rowE R0) (Reads.of_rowE S0) (rdk_reads (Reads.of_rowE R1)) R1.capv R2 (fun x hx => by rcases List.mem_append.1 hx with h | h; exact N0 x h; exact P0 x h) N2.1).mono fun e W' ⟨he, hg⟩ => ?_
  subst he
  exact ⟨_, rfl, _, _, _, [], _, [], hW', (trodAll_cons_mk (shut_bool Tryz.underlying4 _) trodAll_mk0), (trodAll_cons_mk (Below.trod (by kernel_rfl) (by kernel_rfl) (of_decide_eq_true (by kernel_rfl)) k0 hg lt0) (trodAll_cons_mk (Below.trod (by kernel_rfl) (by kernel_rfl) (of_decide_eq_true (by kernel_rfl)) k1 hg lt1) (trodAll_cons_mk (Below.trod (by kernel_rfl) (by kernel_rfl) (of_decide_eq_true (by kernel_rfl)) k2 hg lt2) trodAll_mk0))), rfl, hg.frame _, fun h => by cases h⟩

theorem said : Rows.PickValsSaid :=
  OpenClaim.holds_of_cond 4 Tryz.f4 rfl rfl rfl rfl rfl rfl rfl ⟨rfl, rfl, rfl, rfl, rfl⟩ rfl rfl rfl rfl rfl (by kernel_rfl) Tryz.func4 (by kernel_rfl)
    (of_decide_eq_true (by kernel_rfl)) (by unfold Func.isWrapper; first | (rw [if_pos (by decide +kernel)]; kernel_rfl) | (rw [if_neg (by decide +kernel)]; exact ⟨rfl, rfl⟩))
    (fun os started H enc _ F => by rw [OpenClaim.pre_eq_preRow]; exact lifted os started H enc F)

theorem plain (f : FuncId) (fn : Func) (hf : Tryz.pinned.checked.prog.funcNamed "warder/warderlaw36.PickVals" = some f) (hfn : Tryz.pinned.checked.prog.funcs[f]? = some fn) :
    false = Tryz.pinned.checked.prog.looks [] ∧ ∀ (j : Nat) t, fn.params[j]? = some t → Tryz.pinned.checked.prog.wantsStandIn t = false := by
  obtain rfl : f = 4 := Option.some.inj ((show Tryz.prog.funcNamed "warder/warderlaw36.PickVals" = some 4 by kernel_rfl).symm.trans hf) |>.symm
  obtain rfl : fn = Tryz.f4 := (Option.some.inj (Tryz.func4.symm.trans hfn)).symm
  refine ⟨by kernel_rfl, fun j t ht => ?_⟩
  rw [Tryz.params4] at ht
  have h3 : t = 36 ∨ t = 26 ∨ t = 38 := by simpa using Array.mem_of_getElem? ht
  rcases h3 with rfl | rfl | rfl
  · exact (show Tryz.prog.wantsStandIn 36 = false by kernel_rfl)
  · exact (show Tryz.prog.wantsStandIn 26 = false by kernel_rfl)
  · exact (show Tryz.prog.wantsStandIn 38 = false by kernel_rfl)

/-- THE CARD -/
theorem proved : Rows.PickValsCardSaid :=
  Claim7.holds_tied_plain_at .later [] _ _ _ _ said (fun _ h => by cases h) (by kernel_rfl) (fun _ h => by cases h) pickVals_row_tie rfl ⟨rfl, rfl⟩ (by kernel_rfl) rfl plain (by kernel_rfl)
end Go.Proofs.YtkkoooagamadjaaGreatDoor.pickVals
