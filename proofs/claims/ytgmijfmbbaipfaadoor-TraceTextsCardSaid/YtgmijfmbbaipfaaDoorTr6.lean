/- The law TraceTexts. -/
import Derived.Test.YtgmijfmbbaipfaaDoorTr5
namespace Go.Proofs.YtgmijfmbbaipfaaDoor
open Go.RowKit Go.ChangeShapes Go.WideShapes Go.Deep

theorem RowE.lit1 {α : Type} {E : ElE α} {k : Nat} {w : World} {b : Nat} {a : α} {cs : List Value} (hl : cs.length = k) (hb : b < w.heap.size) (hE : E w a cs) (hc : ∀ j u, cs[j]? = some u → w.cell? ⟨b, j, none⟩ = some u) : RowE E k w (.slice (some ⟨b, 0, none⟩) 1 1) [a] := by
  refine ⟨_, 1, rfl, ⟨fun e => (by cases e), Nat.le_refl _, by unfold maxLen; omega⟩, .inr ⟨b, 0, rfl, hb, fun i x hi => ?_⟩⟩
  have h0 : i = 0 := by have := (List.getElem?_eq_some_iff.1 hi).1; simp at this; exact this
  subst h0
  simp only [List.getElem?_cons_zero, Option.some.injEq] at hi
  subst hi
  exact ⟨cs, hl, hE, fun j u hu => by simpa using hc j u hu⟩
theorem blk_cells {w : World} {b : Nat} {cs : Array Value} {t : TypeId} (h : Blk w b cs t) : ∀ j u, cs.toList[j]? = some u → w.cell? ⟨b, j, none⟩ = some u := fun j u hu => h.cell (by rw [← Array.getElem?_toList]; exact hu)

section
variable {H : Type} {enc : TypeId × Value → H} {w : World} {base : Nat} {sp : Nat → Bool} {hd : Bool}
theorem op_model' {fuel : Nat} {cs : List Value} {x : DataW H × List MemPlace} (h : DataW.trod enc Tryd.prog w base sp hd fuel 32 cs = some x) : ∃ a, modelE w a cs ∧ modelOK a := by
  obtain ⟨_, _, _, _, hlen, _⟩ := DataW.trod_struct Tryd.underlying32 h
  rw [cel_model] at hlen
  exact op_model _ _ _ hlen h
theorem cel_trace : Tryd.prog.cellsOf 35 = 2 := by kernel_rfl
theorem cel_sl_move : Tryd.prog.cellsOf 33 = 1 := by kernel_rfl
set_option maxRecDepth 100000 in
theorem op_trace {fuel : Nat} {cs : List Value} {x : DataW H × List MemPlace} (h : DataW.trod enc Tryd.prog w base sp hd fuel 35 cs = some x) :
    ∃ (T : Tr) (lv : Value), cs = [lv, .int .i64 T.loop] ∧ RowE moveE 3 w lv T.moves ∧ ∀ v ∈ T.moves, moveOK v := by
  obtain ⟨xs, n, _, _, hlen, hxl, hf⟩ := DataW.trod_struct Tryd.underlying35 h
  rw [cel_trace] at hlen
  match cs, hlen with
  | [w0, w1], _ =>
    have hx0 := List.getElem?_eq_getElem (show 0 < xs.length by rw [hxl]; decide)
    have hx1 := List.getElem?_eq_getElem (show 1 < xs.length by rw [hxl]; decide)
    have g0 : DataW.trod enc Tryd.prog w base sp hd n 33 (([w0, w1].drop 0).take (Tryd.prog.cellsOf 33)) = xs[0]? := hf 0 _ rfl
    have g1 : DataW.trod enc Tryd.prog w base sp hd n 3 (([w0, w1].drop 1).take (Tryd.prog.cellsOf 3)) = xs[1]? := hf 1 _ rfl
    rw [hx0, cel_sl_move] at g0
    rw [hx1, cel_int] at g1
    simp only [List.drop, List.take] at g0 g1
    obtain ⟨u0, e0, T, r0, o0⟩ := open_rowE' moveE 3 moveOK Tryd.underlying33 cel_move (by decide) op_move rfl g0
    obtain ⟨l, e1, _, _⟩ := DataW.trod_int Tryd.underlying3 g1
    simp only [List.cons.injEq, and_true] at e0 e1
    exact ⟨⟨T, l⟩, u0, by rw [e0, e1], r0, o0⟩
end

def awEv : Ev := ⟨⟨#[101]⟩, 0, 0, [0], 0⟩
def awM : Mdl := ⟨[⟨#[97]⟩], [], [⟨#[117]⟩], [], [], [awEv], [], [], [], []⟩
def awV : Mv := ⟨0, 0, [7]⟩
def awT : Tr := ⟨[awV], -1⟩
theorem aw_text : textT awM awT = ⟨#[101, 32, 98, 121, 32, 117, 32, 115, 101, 116, 115, 32, 97, 32, 61, 32, 55, 59, 10]⟩ ∧ textE awM awT = 0 := by
  constructor <;> decide +kernel

set_option maxRecDepth 100000 in
set_option maxHeartbeats 1200000 in
theorem awake37 {w : World} (ht : Tabs w) : Calls Tryd.prog 5 #[] w fun e w' => e = .returned (.bool true) ∧ Below w.heap.size w w' := by
  obtain ⟨A1, hA1⟩ : ∃ W, w.alloc (.cells #[.string ⟨#[97]⟩] 9) = W := ⟨_, rfl⟩
  obtain ⟨A2, hA2⟩ : ∃ W, A1.alloc (.cells #[.string ⟨#[117]⟩] 9) = W := ⟨_, rfl⟩
  obtain ⟨A3, hA3⟩ : ∃ W, A2.alloc (.cells #[.int .i64 0] 3) = W := ⟨_, rfl⟩
  obtain ⟨A4, hA4⟩ : ∃ W, A3.alloc (.cells #[.string ⟨#[101]⟩, .int .i64 0, .int .i64 0, .slice (some ⟨A2.heap.size, 0, none⟩) 1 1, .int .i64 0] 49) = W := ⟨_, rfl⟩
  obtain ⟨A5, hA5⟩ : ∃ W, A4.alloc (.cells #[.slice (some ⟨w.heap.size, 0, none⟩) 1 1, .slice none 0 0, .slice (some ⟨A1.heap.size, 0, none⟩) 1 1, .slice none 0 0, .slice none 0 0, .slice (some ⟨A3.heap.size, 0, none⟩) 1 1, .slice none 0 0, .slice none 0 0, .slice none 0 0, .slice none 0 0] 32) = W := ⟨_, rfl⟩
  obtain ⟨A6, hA6⟩ : ∃ W, A5.alloc (.cells #[.int .i64 7] 2) = W := ⟨_, rfl⟩
  obtain ⟨A7, hA7⟩ : ∃ W, A6.alloc (.cells #[.int .i64 0, .int .i64 0, .slice (some ⟨A5.heap.size, 0, none⟩) 1 1] 46) = W := ⟨_, rfl⟩
  have b1 : Below w.heap.size w A1 := by rw [← hA1]; exact (Below.refl _ _).alloc (Nat.le_refl _) _
  have b2 : Below A1.heap.size A1 A2 := by rw [← hA2]; exact (Below.refl _ _).alloc (Nat.le_refl _) _
  have b3 : Below A2.heap.size A2 A3 := by rw [← hA3]; exact (Below.refl _ _).alloc (Nat.le_refl _) _
  have b4 : Below A3.heap.size A3 A4 := by rw [← hA4]; exact (Below.refl _ _).alloc (Nat.le_refl _) _
  have b5 : Below A4.heap.size A4 A5 := by rw [← hA5]; exact (Below.refl _ _).alloc (Nat.le_refl _) _
  have b6 : Below A5.heap.size A5 A6 := by rw [← hA6]; exact (Below.refl _ _).alloc (Nat.le_refl _) _
  have b7 : Below A6.heap.size A6 A7 := by rw [← hA7]; exact (Below.refl _ _).alloc (Nat.le_refl _) _
  have x0 : Blk A1 w.heap.size #[.string ⟨#[97]⟩] 9 := by rw [← hA1]; exact Blk.new _ _ _
  have x1 : Blk A2 A1.heap.size #[.string ⟨#[117]⟩] 9 := by rw [← hA2]; exact Blk.new _ _ _
  have x2 : Blk A3 A2.heap.size #[.int .i64 0] 3 := by rw [← hA3]; exact Blk.new _ _ _
  have x3 : Blk A4 A3.heap.size #[.string ⟨#[101]⟩, .int .i64 0, .int .i64 0, .slice (some ⟨A2.heap.size, 0, none⟩) 1 1, .int .i64 0] 49 := by rw [← hA4]; exact Blk.new _ _ _
  have x4 : Blk A5 A4.heap.size #[.slice (some ⟨w.heap.size, 0, none⟩) 1 1, .slice none 0 0, .slice (some ⟨A1.heap.size, 0, none⟩) 1 1, .slice none 0 0, .slice none 0 0, .slice (some ⟨A3.heap.size, 0, none⟩) 1 1, .slice none 0 0, .slice none 0 0, .slice none 0 0, .slice none 0 0] 32 := by rw [← hA5]; exact Blk.new _ _ _
  have z0 := x4.cell (i := 0) rfl
  have z1 := x4.cell (i := 1) rfl
  have z2 := x4.cell (i := 2) rfl
  have z3 := x4.cell (i := 3) rfl
  have z4 := x4.cell (i := 4) rfl
  have z5 := x4.cell (i := 5) rfl
  have z6 := x4.cell (i := 6) rfl
  have z7 := x4.cell (i := 7) rfl
  have z8 := x4.cell (i := 8) rfl
  have z9 := x4.cell (i := 9) rfl
  have HA5 := Lib.hid hA5
  have x5 : Blk A6 A5.heap.size #[.int .i64 7] 2 := by rw [← hA6]; exact Blk.new _ _ _
  have x6 : Blk A7 A6.heap.size #[.int .i64 0, .int .i64 0, .slice (some ⟨A5.heap.size, 0, none⟩) 1 1] 46 := by rw [← hA7]; exact Blk.new _ _ _
  have y0 := (((((x0.keep b2).keep b3).keep b4).keep b5).keep b6).keep b7
  have y1 := ((((x1.keep b3).keep b4).keep b5).keep b6).keep b7
  have y2 := (((x2.keep b4).keep b5).keep b6).keep b7
  have y3 := ((x3.keep b5).keep b6).keep b7
  have y5 := x5.keep b7
  have hm : MdR A7 (.slice (some ⟨w.heap.size, 0, none⟩) 1 1) (.slice none 0 0) (.slice (some ⟨A1.heap.size, 0, none⟩) 1 1) (.slice none 0 0) (.slice none 0 0) (.slice (some ⟨A3.heap.size, 0, none⟩) 1 1) (.slice none 0 0) (.slice none 0 0) (.slice none 0 0) (.slice none 0 0) awM :=
    ⟨RowE.lit1 rfl y0.lt rfl (blk_cells y0), RowE.nil _ _ _, RowE.lit1 rfl y1.lt rfl (blk_cells y1), RowE.nil _ _ _, RowE.nil _ _ _,
      RowE.lit1 (a := awEv) rfl y3.lt ⟨_, rfl, RowE.lit1 rfl y2.lt rfl (blk_cells y2)⟩ (blk_cells y3), RowE.nil _ _ _, RowE.nil _ _ _, RowE.nil _ _ _, RowE.nil _ _ _⟩
  have hv : RowE moveE 3 A7 (.slice (some ⟨A6.heap.size, 0, none⟩) 1 1) awT.moves := RowE.lit1 (a := awV) rfl x6.lt ⟨_, rfl, RowE.lit1 rfl y5.lt rfl (blk_cells y5)⟩ (blk_cells x6)
  have hb : Below w.heap.size w A7 := ((((((b1.trans (b2.mono b1.size)).trans (b3.mono (by have := b1.size; have := b2.size; omega))).trans (b4.mono (by have := b1.size; have := b2.size; have := b3.size; omega))).trans (b5.mono (by have := b1.size; have := b2.size; have := b3.size; have := b4.size; omega))).trans (b6.mono (by have := b1.size; have := b2.size; have := b3.size; have := b4.size; have := b5.size; omega))).trans (b7.mono (by have := b1.size; have := b2.size; have := b3.size; have := b4.size; have := b5.size; have := b6.size; omega)))
  have htx := ttext_any (t := awT) (ht.keep hb) hm hv (by
      refine ⟨fun s hs => ?_, fun s hs => ?_, fun e he => ?_⟩
      · simp [awM] at hs; subst hs; decide
      · simp [awM] at hs; subst hs; decide
      · simp [awM] at he; subst he; decide) (by
      intro v hv
      simp [awT] at hv
      subst hv
      refine ⟨by decide, fun n hn => ?_⟩
      simp [awV] at hn
      subst hn
      exact ⟨by decide, by decide⟩)
  rw [aw_text.1, aw_text.2] at htx
  have HTX := Lib.hid htx
  have HB := Lib.hid hb
  clear ht hm hv hb htx x0 x1 x2 x3 x4 x5 x6 y0 y1 y2 y3 y5 b1 b2 b3 b4 b5 b6 b7 hA5
  go_enter Tryd.func5, Tryd.ntmps5
  go_upto_region 2 with fail
  rw [HA5.out]
  go_wp2_with fail
  refine HTX.out.mono ?_
  rintro e w8 ⟨rfl, hb8⟩
  have HB8 := Lib.hid (HB.out.trans (hb8.mono HB.out.size))
  clear hb8
  go_wp2_with fail
  go_ret
  exact ⟨rfl, HB8.out⟩

set_option maxHeartbeats 1000000 in
theorem ours_any (v : Value) (l : Int) (w : World) {ad : Option Addr} {n c : Nat} (hv : v = .slice ad n c) : Calls Tryd.prog 7 #[.agg #[v, .int .i64 l]] w fun e w' => e = .returned (.agg #[v, .int .i64 l]) ∧ Below w.heap.size w w' := by
  subst hv
  obtain ⟨W1, hW1⟩ : ∃ W1, w.alloc (.cells #[.slice ad n c, .int .i64 l] 35) = W1 := ⟨_, rfl⟩
  have hs1 : W1.heap.size = w.heap.size + 1 := by rw [← hW1]; simp
  obtain ⟨W2, hW2⟩ : ∃ W2, W1.alloc (.cells #[.slice none 0 0, .int .i64 0] 41) = W2 := ⟨_, rfl⟩
  have hb2 : Below w.heap.size w W2 := by rw [← hW2, ← hW1]; exact ((Below.refl _ w).alloc (Nat.le_refl _) _).alloc (by simp) _
  have xt : Blk W2 w.heap.size #[.slice ad n c, .int .i64 l] 35 := by rw [← hW2, ← hW1]; exact (Blk.new _ _ _).alloc _
  have xr : Blk W2 (w.heap.size + 1) #[.slice none 0 0, .int .i64 0] 41 := by rw [← hW2, ← hs1]; exact Blk.new _ _ _
  have c0 := xt.two.1; have c1 := xt.two.2
  have r0 := xr.two.1; have r1 := xr.two.2; have r2 := xr.free 0; have r3 := xr.free 1
  have HB := Lib.hid hb2; have HXR := Lib.hid xr
  clear hb2 xt xr
  go_enter Tryd.func7, Tryd.ntmps7
  go_wp2
  have v1 := HXR.out.put2 (.slice ad n c) (.int .i64 l)
  have e0 := v1.two.1; have e1 := v1.two.2
  refine bodyPost_ret (v := .agg #[.slice ad n c, .int .i64 l]) (by simp [results, Tryd.results7, go_sem, e0, e1]) rfl ?_
  exact ⟨rfl, (HB.out.setCell (p := ⟨w.heap.size + 1, 0, none⟩) (Nat.le_succ _) _).setCell (p := ⟨w.heap.size + 1, 1, none⟩) (Nat.le_succ _) _⟩

set_option maxRecDepth 100000 in
set_option maxHeartbeats 1200000 in
theorem lawTraceTexts {w : World} {m0 m1 m2 m3 m4 m5 m6 m7 m8 m9 lv : Value} {M : Mdl} (t : Tr) (ht : Tabs w) (hm : MdR w m0 m1 m2 m3 m4 m5 m6 m7 m8 m9 M) (hv : RowE moveE 3 w lv t.moves) (hnum : ∀ v ∈ t.moves, ∀ n ∈ v.vals, N64 n) :
    Calls Tryd.prog 3 #[.agg #[m0, m1, m2, m3, m4, m5, m6, m7, m8, m9], .agg #[lv, .int .i64 t.loop]] w fun e w' => e = .returned (.bool true) ∧ Below w.heap.size w w' := by
  obtain ⟨ad, cp, ev⟩ := hv.len
  obtain ⟨n, hn⟩ : ∃ n, t.moves.length = n := ⟨_, rfl⟩
  rw [hn] at ev
  subst ev
  obtain ⟨lp, hlp⟩ : ∃ x, t.loop = x := ⟨_, rfl⟩
  obtain ⟨W1, hW1⟩ : ∃ W1, w.alloc (.cells #[m0, m1, m2, m3, m4, m5, m6, m7, m8, m9] 32) = W1 := ⟨_, rfl⟩
  have hs1 : W1.heap.size = w.heap.size + 1 := by rw [← hW1]; simp
  obtain ⟨W2, hW2⟩ : ∃ W2, W1.alloc (.cells #[.slice ad n cp, .int .i64 lp] 35) = W2 := ⟨_, rfl⟩
  have hb2 : Below w.heap.size w W2 := by rw [← hW2, ← hW1]; exact ((Below.refl _ w).alloc (Nat.le_refl _) _).alloc (by simp) _
  have xm : Blk W2 w.heap.size #[m0, m1, m2, m3, m4, m5, m6, m7, m8, m9] 32 := by rw [← hW2, ← hW1]; exact (Blk.new _ _ _).alloc _
  have xt : Blk W2 (w.heap.size + 1) #[.slice ad n cp, .int .i64 lp] 35 := by rw [← hW2, ← hs1]; exact Blk.new _ _ _
  have hg := great37_any t (hm.below hb2) (hv.below moveE_keep hb2)
  rw [hlp] at hg
  have HG := Lib.hid hg
  have HT := Lib.hid ht; have HM := Lib.hid hm; have HV := Lib.hid hv; have HXM := Lib.hid xm; have HXT := Lib.hid xt; have HB2 := Lib.hid hb2; have HLP := Lib.hid hlp; have HNUM := Lib.hid hnum
  have c0 := xm.cell (i := 0) rfl
  have c1 := xm.cell (i := 1) rfl
  have c2 := xm.cell (i := 2) rfl
  have c3 := xm.cell (i := 3) rfl
  have c4 := xm.cell (i := 4) rfl
  have c5 := xm.cell (i := 5) rfl
  have c6 := xm.cell (i := 6) rfl
  have c7 := xm.cell (i := 7) rfl
  have c8 := xm.cell (i := 8) rfl
  have c9 := xm.cell (i := 9) rfl
  have d0 := xt.cell (i := 0) rfl; have d1 := xt.cell (i := 1) rfl
  rw [hlp]
  clear ht hm hv xm xt hb2 hn hlp hg hnum
  go_enter Tryd.func3, Tryd.ntmps3
  go_wp2_with fail
  refine HG.out.mono ?_
  rintro e w3 ⟨b, rfl, HNG, hb3⟩
  have HB3 := Lib.hid (HB2.out.trans (hb3.mono HB2.out.size))
  have HXM3 := Lib.hid (HXM.out.keep hb3)
  have HXT3 := Lib.hid (HXT.out.keep hb3)
  have HAW := Lib.hid (fun W (hW : Below w.heap.size w W) => awake37 (HT.out.keep hW))
  clear hb3 HG HXM HXT HB2 c0 c1 c2 c3 c4 c5 c6 c7 c8 c9 d0 d1
  cases b
  rotate_left
  · go_wp2_with fail
    refine (HAW.out _ HB3.out).mono ?_
    rintro e w4 ⟨rfl, hb4⟩
    have HB4 := Lib.hid (HB3.out.trans (hb4.mono HB3.out.size))
    clear hb4
    go_wp2_with fail
    go_ret
    exact ⟨rfl, HB4.out⟩
  obtain ⟨hsm, -, hvl⟩ := HNG.out rfl
  have HSM := Lib.hid hsm
  have HSV : Hid (∀ v ∈ t.moves, SmallV v) := fun v hv => ⟨hvl v hv, HNUM.out v hv⟩
  clear HNG hsm hvl
  have HOU : Hid (∀ W, Below w3.heap.size w3 W → Calls Tryd.prog 7 #[.agg #[.slice ad n cp, .int .i64 lp]] W fun e w' => e = .returned (.agg #[.slice ad n cp, .int .i64 lp]) ∧ Below W.heap.size W w') := fun W _ => ours_any _ _ _ rfl
  have HTX : Hid (∀ W, Below w3.heap.size w3 W → Calls Tryd.prog 6 #[.agg #[m0, m1, m2, m3, m4, m5, m6, m7, m8, m9], .agg #[.slice ad n cp, .int .i64 lp]] W fun e w' => e = .returned (.tuple #[.string (textT M t), .int .i64 (textE M t)]) ∧ Below W.heap.size W w') := fun W hW => by
    have hb := HB3.out.trans (hW.mono HB3.out.size)
    have h := ttext_any t (HT.out.keep hb) (HM.out.below hb) (HV.out.below moveE_keep hb) HSM.out HSV.out
    rw [HLP.out] at h
    exact h
  have HRX : Hid (∀ W, Below w3.heap.size w3 W → Calls Tryd.prog 8 #[.agg #[m0, m1, m2, m3, m4, m5, m6, m7, m8, m9], .agg #[.slice ad n cp, .int .i64 lp]] W fun e w' => e = .returned (.tuple #[.string (textT M t), .int .i64 (textE M t)]) ∧ Below W.heap.size W w') := fun W hW => by
    have hb := HB3.out.trans (hW.mono HB3.out.size)
    have h := rttext_any t (HT.out.keep hb) (HM.out.below hb) (HV.out.below moveE_keep hb) HSM.out HSV.out
    rw [HLP.out] at h
    exact h
  obtain ⟨S, hS⟩ : ∃ s, textT M t = s := ⟨_, rfl⟩
  obtain ⟨er, her⟩ : ∃ s, textE M t = s := ⟨_, rfl⟩
  rw [hS, her] at HTX HRX
  have HSF : Hid (∀ W, Below w3.heap.size w3 W → W.cell? ⟨w.heap.size, 0, none⟩ = some m0 ∧ W.cell? ⟨w.heap.size, 1, none⟩ = some m1 ∧ W.cell? ⟨w.heap.size, 2, none⟩ = some m2 ∧ W.cell? ⟨w.heap.size, 3, none⟩ = some m3 ∧ W.cell? ⟨w.heap.size, 4, none⟩ = some m4 ∧ W.cell? ⟨w.heap.size, 5, none⟩ = some m5 ∧ W.cell? ⟨w.heap.size, 6, none⟩ = some m6 ∧ W.cell? ⟨w.heap.size, 7, none⟩ = some m7 ∧ W.cell? ⟨w.heap.size, 8, none⟩ = some m8 ∧ W.cell? ⟨w.heap.size, 9, none⟩ = some m9 ∧ W.cell? ⟨w.heap.size + 1, 0, none⟩ = some (.slice ad n cp) ∧ W.cell? ⟨w.heap.size + 1, 1, none⟩ = some (.int .i64 lp)) := fun W hW =>
    have xm4 := HXM3.out.keep hW
    have xt4 := HXT3.out.keep hW
    ⟨xm4.cell (i := 0) rfl, xm4.cell (i := 1) rfl, xm4.cell (i := 2) rfl, xm4.cell (i := 3) rfl, xm4.cell (i := 4) rfl, xm4.cell (i := 5) rfl, xm4.cell (i := 6) rfl, xm4.cell (i := 7) rfl, xm4.cell (i := 8) rfl, xm4.cell (i := 9) rfl, xt4.cell (i := 0) rfl, xt4.cell (i := 1) rfl⟩
  obtain ⟨c0, c1, c2, c3, c4, c5, c6, c7, c8, c9, d0, d1⟩ := HSF.out w3 (Below.refl _ _)
  have hbz : Below w3.heap.size w3 w3.drew := (Below.refl _ _).drew
  clear hS her
  go_upto_region 3 with fail
  go_cut [2, 3, 5, 6] (fun s2 s3 s5 s6 wx => s2 = .pointer (some ⟨w.heap.size, 0, none⟩) ∧ s3 = .pointer (some ⟨w.heap.size + 1, 0, none⟩) ∧ s5 = .string S ∧ s6 = .int .i64 er ∧ Hid (Below w3.heap.size w3 wx))
  case first =>
    go_region_held3 (fun w' => w'.cell? ⟨w.heap.size, 0, none⟩ = some m0 ∧ w'.cell? ⟨w.heap.size, 1, none⟩ = some m1 ∧ w'.cell? ⟨w.heap.size, 2, none⟩ = some m2 ∧ w'.cell? ⟨w.heap.size, 3, none⟩ = some m3 ∧ w'.cell? ⟨w.heap.size, 4, none⟩ = some m4 ∧ w'.cell? ⟨w.heap.size, 5, none⟩ = some m5 ∧ w'.cell? ⟨w.heap.size, 6, none⟩ = some m6 ∧ w'.cell? ⟨w.heap.size, 7, none⟩ = some m7 ∧ w'.cell? ⟨w.heap.size, 8, none⟩ = some m8 ∧ w'.cell? ⟨w.heap.size, 9, none⟩ = some m9 ∧ w'.cell? ⟨w.heap.size + 1, 0, none⟩ = some (.slice ad n cp) ∧ w'.cell? ⟨w.heap.size + 1, 1, none⟩ = some (.int .i64 lp))
        (first | (with_reducible exact HSF.out _ (by assumption)) | go_keep)
        (first
          | (go_simp; go_at_call 7; (with_reducible refine (HOU.out _ (by assumption)).mono ?_)
             rintro e w4 ⟨rfl, hbs⟩
             have hbz := hbz.trans (hbs.mono hbz.size)
             clear hbs)
          | (go_simp; go_at_call 6; (with_reducible refine (HTX.out _ (by assumption)).mono ?_)
             rintro e w5 ⟨rfl, hbs⟩
             have hbz := hbz.trans (hbs.mono hbz.size)
             clear hbs))
    all_goals
      go_wp2_with fail
      go_meet
      exact ⟨rfl, rfl, rfl, rfl, Lib.hid hbz⟩
  case rest =>
    clear hbz c0 c1 c2 c3 c4 c5 c6 c7 c8 c9 d0 d1
    obtain ⟨rfl, rfl, rfl, rfl, HC⟩ := hcut
    obtain ⟨c0, c1, c2, c3, c4, c5, c6, c7, c8, c9, d0, d1⟩ := HSF.out _ HC.out
    go_wp2_with fail
    refine (HRX.out _ HC.out).mono ?_
    rintro e w6 ⟨rfl, hb6⟩
    have HB6 := Lib.hid (HB3.out.trans ((HC.out.trans (hb6.mono HC.out.size)).mono HB3.out.size))
    clear hb6
    go_wp2_with fail
    refine (HAW.out _ HB6.out).mono ?_
    rintro e w7 ⟨rfl, hb7⟩
    have HB7 := Lib.hid (HB6.out.trans (hb7.mono HB6.out.size))
    clear hb7
    go_wp2_with fail
    go_ret
    exact ⟨rfl, HB7.out⟩

end Go.Proofs.YtgmijfmbbaipfaaDoor
