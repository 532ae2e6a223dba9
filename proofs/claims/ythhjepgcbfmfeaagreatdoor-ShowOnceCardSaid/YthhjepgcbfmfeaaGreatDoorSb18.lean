/- Contracts of the formulas' reader: compare, atom. Contract of the formulas' reader: atom (printed by gen_atom.py). -/
import Derived.Test.YthhjepgcbfmfeaaGreatDoorSb17

namespace Go.Proofs.YthhjepgcbfmfeaaGreatDoor
open Go.RowKit

theorem CRes.after {w w1 w' : World} {B b : Nat} {lv : Value} {T : List Tk} {prop : Bool} {O : List It} {p : PR} {e : Ending} (h : CRes w1 B b lv T prop O p e w') (hb : Below w.heap.size w w1) (hB : B ≤ w.heap.size) : CRes w B b lv T prop O p e w' := by
  cases p with
  | ok o a => obtain ⟨he, ov, l, c, h⟩ := h; exact ⟨he, ov, l, c, h.after hb hB⟩
  | bad er l c => obtain ⟨he, ov, O', i', h⟩ := h; exact ⟨he, ov, O', i', h.after hb hB⟩
theorem CRes.val {w w' : World} {B b : Nat} {lv : Value} {T : List Tk} {prop : Bool} {O : List It} {p : PR} {e : Ending} (h : CRes w B b lv T prop O p e w') : ∃ q, e = .returned (.bool q) := by
  cases p with
  | ok o a => exact ⟨_, h.1⟩
  | bad er l c => exact ⟨_, h.1⟩

/-- a place in a block of its own -/
def PsB (w : World) (b : Nat) (l c : Int) : Prop := w.heap[b]? = some (.cells #[.int .i64 l, .int .i64 c] 29 (0, 0))
theorem PsB.facts {w : World} {b : Nat} {l c : Int} (h : PsB w b l c) : w.cell? ⟨b, 0, none⟩ = some (.int .i64 l) ∧ w.cell? ⟨b, 1, none⟩ = some (.int .i64 c) := by
  unfold PsB at h
  refine ⟨?_, ?_⟩ <;> simp [World.cell?, h]
theorem PsB.lt {w : World} {b : Nat} {l c : Int} (h : PsB w b l c) : b < w.heap.size := (Array.getElem?_eq_some_iff.1 h).1
theorem PsB.below {w w' : World} {b : Nat} {l c : Int} (h : PsB w b l c) (hb : Below w.heap.size w w') : PsB w' b l c := (hb.block b h.lt).trans h
theorem PsB.alloc {w : World} {b : Nat} {l c : Int} (h : PsB w b l c) (o : Obj) : PsB (w.alloc o) b l c := (Below.heap_alloc _ _ _ h.lt).trans h
theorem PsB.setOther {w : World} {b g j : Nat} {l c : Int} (h : PsB w b l c) (hne : g ≠ b) (u : Value) : PsB (w.setCell ⟨g, j, none⟩ u) b l c := (Below.heap_setCell _ _ _ _ (by show b ≠ g; omega)).trans h
theorem PsB.kept {w w' : World} {b k : Nat} {l c : Int} (h : PsB w k l c) (ht : Lib.OthersKept 39 (some b) w w') (hkb : k ≠ b) : PsB w' k l c :=
  ht k _ h (fun e => hkb (Option.some.inj e)) (fun c fz e => by simp at e)
theorem WdB.then {w w' : World} {b : Nat} {n : ByteArray} {m : Int} (h : WdB w b n m) (hb : Below w.heap.size w w') : WdB w' b n m := (hb.block b h.lt).trans h

/-- the six signs in a block of their own -/
def SgB (w : World) (b : Nat) : Prop := w.heap[b]? = some (.cells #[.string ⟨#[60]⟩, .string ⟨#[60, 61]⟩, .string ⟨#[62]⟩, .string ⟨#[62, 61]⟩, .string ⟨#[61]⟩, .string ⟨#[33, 61]⟩] 9 (0, 0))
theorem SgB.facts {w : World} {b : Nat} (h : SgB w b) : w.cell? ⟨b, 0, none⟩ = some (.string ⟨#[60]⟩) ∧ w.cell? ⟨b, 1, none⟩ = some (.string ⟨#[60, 61]⟩) ∧ w.cell? ⟨b, 2, none⟩ = some (.string ⟨#[62]⟩) ∧ w.cell? ⟨b, 3, none⟩ = some (.string ⟨#[62, 61]⟩) ∧ w.cell? ⟨b, 4, none⟩ = some (.string ⟨#[61]⟩) ∧ w.cell? ⟨b, 5, none⟩ = some (.string ⟨#[33, 61]⟩) := by
  unfold SgB at h
  refine ⟨?_, ?_, ?_, ?_, ?_, ?_⟩ <;> simp [World.cell?, h]
theorem SgB.lt {w : World} {b : Nat} (h : SgB w b) : b < w.heap.size := (Array.getElem?_eq_some_iff.1 h).1

/-- where compare stands in its loop -/
structure CmpK (w W : World) (B b : Nat) (lv : Value) (T : List Tk) (i : Int) (prop : Bool) (ov : Value) (O : List It) (er line col : Int) (kp ka g : Nat) (pl pc : Int) (n : ByteArray) (m : Int) : Prop where
  tk : CTook w W B b lv T i prop ov O er line col
  ps : PsB W kp pl pc
  wd : WdB W ka n m
  sg : SgB W g
theorem CmpK.then {w W W' : World} {B b : Nat} {lv : Value} {T : List Tk} {i : Int} {prop : Bool} {ov : Value} {O : List It} {er line col : Int} {kp ka g : Nat} {pl pc : Int} {n : ByteArray} {m : Int} (h : CmpK w W B b lv T i prop ov O er line col kp ka g pl pc n m) (hb : Below W.heap.size W W') (hB : B ≤ w.heap.size) : CmpK w W' B b lv T i prop ov O er line col kp ka g pl pc n m :=
  ⟨h.tk.then hb hB, h.ps.below hb, h.wd.then hb, (hb.block g h.sg.lt).trans h.sg⟩

/-- which of the six signs stands there: at most one -/
theorem comp_cases (T : List Tk) (i : Int) : ∃ q0 q1 q2 q3 q4 q5 : Bool, (isTk T i 4 ⟨#[60]⟩ = q0 ∧ isTk T i 4 ⟨#[60, 61]⟩ = q1 ∧ isTk T i 4 ⟨#[62]⟩ = q2 ∧ isTk T i 4 ⟨#[62, 61]⟩ = q3 ∧ isTk T i 4 ⟨#[61]⟩ = q4 ∧ isTk T i 4 ⟨#[33, 61]⟩ = q5) ∧
    ((q0 = true ∧ q1 = false ∧ q2 = false ∧ q3 = false ∧ q4 = false ∧ q5 = false ∧ compN T i = 3) ∨ (q0 = false ∧ q1 = true ∧ q2 = false ∧ q3 = false ∧ q4 = false ∧ q5 = false ∧ compN T i = 4) ∨ (q0 = false ∧ q1 = false ∧ q2 = true ∧ q3 = false ∧ q4 = false ∧ q5 = false ∧ compN T i = 5) ∨ (q0 = false ∧ q1 = false ∧ q2 = false ∧ q3 = true ∧ q4 = false ∧ q5 = false ∧ compN T i = 6) ∨ (q0 = false ∧ q1 = false ∧ q2 = false ∧ q3 = false ∧ q4 = true ∧ q5 = false ∧ compN T i = 7) ∨ (q0 = false ∧ q1 = false ∧ q2 = false ∧ q3 = false ∧ q4 = false ∧ q5 = true ∧ compN T i = 8) ∨ (q0 = false ∧ q1 = false ∧ q2 = false ∧ q3 = false ∧ q4 = false ∧ q5 = false ∧ compN T i = 0)) := by
  refine ⟨_, _, _, _, _, _, ⟨rfl, rfl, rfl, rfl, rfl, rfl⟩, ?_⟩
  unfold isTk compN
  obtain ⟨x, hx⟩ : ∃ x, tkAt T i = x := ⟨_, rfl⟩
  rw [hx]
  by_cases hk : x.kind = 4
  · rw [if_neg (by omega), decide_eq_true hk]
    simp only [Bool.true_and]
    by_cases h0 : x.text = ⟨#[60]⟩
    · rw [h0]; clear hx h0; decide
    by_cases h1 : x.text = ⟨#[60, 61]⟩
    · rw [h1]; clear hx h1 h0; decide
    by_cases h2 : x.text = ⟨#[62]⟩
    · rw [h2]; clear hx h2 h0 h1; decide
    by_cases h3 : x.text = ⟨#[62, 61]⟩
    · rw [h3]; clear hx h3 h0 h1 h2; decide
    by_cases h4 : x.text = ⟨#[61]⟩
    · rw [h4]; clear hx h4 h0 h1 h2 h3; decide
    by_cases h5 : x.text = ⟨#[33, 61]⟩
    · rw [h5]; clear hx h5 h0 h1 h2 h3 h4; decide
    simp [h0, h1, h2, h3, h4, h5]
  · rw [if_pos hk, decide_eq_false hk]
    simp only [Bool.false_and]
    simp

set_option maxRecDepth 100000 in
set_option maxHeartbeats 4000000 in
theorem compare_any {w : World} {B b : Nat} {lv : Value} {T : List Tk} {i : Int} {prop : Bool} {ov : Value} {O : List It} {line col : Int} (h : Cr w B b lv T i prop ov O 0 line col) (hB : B ≤ w.heap.size) (hlo : -9223372036854775808 ≤ i) (hhi : i ≤ 1800000) (hO : O.length ≤ 1000000) :
    Calls Tryz.prog 64 #[.pointer (some ⟨b, 0, none⟩)] w (CRes w B b lv T prop O (compP T i)) := by
  have HR := Lib.hid h
  have hbl := h.lt
  obtain ⟨x, hx⟩ : ∃ x, tkAt T i = x := ⟨_, rfl⟩
  have HX := Lib.hid hx
  have HN := Lib.hid (now_any h)
  clear h hx
  have hfd : ∀ w : World, (Instr.field 54 (.agg #[.int .i64 x.kind, .string x.text, .int .i64 x.num, .int .i64 x.line, .int .i64 x.col]) 3).run Tryz.prog w = .ok (.agg #[.int .i64 x.line, .int .i64 x.col]) w := fun _ => by kernel_rfl
  by_cases hw : isWord x = true
  · have HW := Lib.hid (show isWord (tkAt T i) = true by rw [HX.out]; exact hw)
    obtain ⟨q0, q1, q2, q3, q4, q5, ⟨e0, e1, e2, e3, e4, e5⟩, hq⟩ := comp_cases T (i + 1)
    have E0 := Lib.hid e0; have E1 := Lib.hid e1; have E2 := Lib.hid e2; have E3 := Lib.hid e3; have E4 := Lib.hid e4; have E5 := Lib.hid e5
    clear e0 e1 e2 e3 e4 e5
    have HP : Hid (compP T i = if compN T (i + 1) = 0 then badP T (i + 1) 4
      else if isWord (tkAt T (i + 2)) then .ok [⟨compN T (i + 1), wordName x, wordNum x, wordName (tkAt T (i + 2)), wordNum (tkAt T (i + 2)), ⟨#[]⟩, ⟨#[]⟩, x.line, x.col⟩] (i + 3)
      else badP T (i + 2) 4) := by unfold Hid compP; rw [HX.out, if_pos hw]
    clear hw
    rcases hq with ⟨rfl, rfl, rfl, rfl, rfl, rfl, hc⟩ | ⟨rfl, rfl, rfl, rfl, rfl, rfl, hc⟩ | ⟨rfl, rfl, rfl, rfl, rfl, rfl, hc⟩ | ⟨rfl, rfl, rfl, rfl, rfl, rfl, hc⟩ | ⟨rfl, rfl, rfl, rfl, rfl, rfl, hc⟩ | ⟨rfl, rfl, rfl, rfl, rfl, rfl, hc⟩ | ⟨rfl, rfl, rfl, rfl, rfl, rfl, hc⟩
    all_goals
      have HCN := Lib.hid hc
      clear hc
      go_enter Tryz.func64, Tryz.ntmps64
      go_wp2_with fail
      refine HN.out.mono ?_
      rintro e w1 ⟨rfl, hb1⟩
      rw [HX.out]
      unfold tokV
      have HC1 := Lib.hid (((CTook.of_rd HR.out).then hb1 hB).alloc hB (.cells #[.int .i64 x.line, .int .i64 x.col] 29))
      have HP1 := Lib.hid (show PsB (w1.alloc (.cells #[.int .i64 x.line, .int .i64 x.col] 29)) w1.heap.size x.line x.col from heap_alloc_new w1 _)
      have hs1 := hb1.size
      clear hb1
      go_wp2_with fail
      refine (word_ok HC1.out.rd (Nat.le_trans hB HC1.out.low.size) hlo (by omega) HW.out).mono ?_
      rintro e w2 ⟨rfl, hc2⟩
      rw [HX.out]
      have hbz := hc2.rd.lt
      have hp2 := HP1.out.kept hc2.kept (by omega)
      have hpl := hp2.lt
      have HK3 : Hid (CmpK w ((w2.alloc (.cells #[.string (wordName x), .int .i64 (wordNum x)] 37)).alloc (.cells #[.string ⟨#[60]⟩, .string ⟨#[60, 61]⟩, .string ⟨#[62]⟩, .string ⟨#[62, 61]⟩, .string ⟨#[61]⟩, .string ⟨#[33, 61]⟩] 9)) B b lv T (i + 1) prop ov O 0 line col w1.heap.size w2.heap.size (w2.heap.size + 1) x.line x.col (wordName x) (wordNum x)) :=
        ⟨((HC1.out.trans hc2).alloc hB _).alloc hB _, (hp2.alloc _).alloc _, (show WdB (w2.alloc (.cells #[.string (wordName x), .int .i64 (wordNum x)] 37)) w2.heap.size (wordName x) (wordNum x) from heap_alloc_new w2 _).alloc _, by have := heap_alloc_new (w2.alloc (.cells #[.string (wordName x), .int .i64 (wordNum x)] 37)) (.cells #[.string ⟨#[60]⟩, .string ⟨#[60, 61]⟩, .string ⟨#[62]⟩, .string ⟨#[62, 61]⟩, .string ⟨#[61]⟩, .string ⟨#[33, 61]⟩] 9); rw [World.size_alloc] at this; exact this⟩
      have hs2 := hp2.lt
      clear hc2 hp2
      go_wp2
      refine wp_loop_rounds 7 ?_
      rw [rounds_succ]
      go_wp2_with fail
      refine (is_any HK3.out.tk.rd 4 ⟨#[60]⟩).mono ?_
      rintro e w4 ⟨rfl, hb⟩
      rw [E0.out]
      have HK4 := Lib.hid (HK3.out.then hb hB)
      obtain ⟨s0, s1, s2, s3, s4, s5⟩ := HK4.out.sg.facts
      have hl4 := HK4.out.sg.lt
      clear hb
      skip
      go_wp2
      rw [rounds_succ]
      go_wp2_with fail
      refine (is_any HK4.out.tk.rd 4 ⟨#[60, 61]⟩).mono ?_
      rintro e w5 ⟨rfl, hb⟩
      rw [E1.out]
      have HK5 := Lib.hid (HK4.out.then hb hB)
      obtain ⟨s0, s1, s2, s3, s4, s5⟩ := HK5.out.sg.facts
      have hl5 := HK5.out.sg.lt
      clear hb
      skip
      go_wp2
      rw [rounds_succ]
      go_wp2_with fail
      refine (is_any HK5.out.tk.rd 4 ⟨#[62]⟩).mono ?_
      rintro e w6 ⟨rfl, hb⟩
      rw [E2.out]
      have HK6 := Lib.hid (HK5.out.then hb hB)
      obtain ⟨s0, s1, s2, s3, s4, s5⟩ := HK6.out.sg.facts
      have hl6 := HK6.out.sg.lt
      clear hb
      skip
      go_wp2
      rw [rounds_succ]
      go_wp2_with fail
      refine (is_any HK6.out.tk.rd 4 ⟨#[62, 61]⟩).mono ?_
      rintro e w7 ⟨rfl, hb⟩
      rw [E3.out]
      have HK7 := Lib.hid (HK6.out.then hb hB)
      obtain ⟨s0, s1, s2, s3, s4, s5⟩ := HK7.out.sg.facts
      have hl7 := HK7.out.sg.lt
      clear hb
      skip
      go_wp2
      rw [rounds_succ]
      go_wp2_with fail
      refine (is_any HK7.out.tk.rd 4 ⟨#[61]⟩).mono ?_
      rintro e w8 ⟨rfl, hb⟩
      rw [E4.out]
      have HK8 := Lib.hid (HK7.out.then hb hB)
      obtain ⟨s0, s1, s2, s3, s4, s5⟩ := HK8.out.sg.facts
      have hl8 := HK8.out.sg.lt
      clear hb
      skip
      go_wp2
      rw [rounds_succ]
      go_wp2_with fail
      refine (is_any HK8.out.tk.rd 4 ⟨#[33, 61]⟩).mono ?_
      rintro e w9 ⟨rfl, hb⟩
      rw [E5.out]
      have HK9 := Lib.hid (HK8.out.then hb hB)
      obtain ⟨s0, s1, s2, s3, s4, s5⟩ := HK9.out.sg.facts
      have hl9 := HK9.out.sg.lt
      clear hb
      skip
      go_wp2
      obtain ⟨_, c1, _, _, _, _, _⟩ := HK9.out.tk.rd.facts
      obtain ⟨f1, _, _, _, _⟩ := HK9.out.tk.rd.free
      have hbl9 := HK9.out.tk.rd.lt
      have HM := Lib.hid (HK9.out.tk.moved (i + 1 + 1))
      have HPM := Lib.hid (HK9.out.ps.setOther (g := b) (j := 1) (by omega) (.int .i64 (i + 1 + 1)))
      have HWM := Lib.hid (HK9.out.wd.setOther (g := b) (j := 1) (by omega) (.int .i64 (i + 1 + 1)))
      have hk1 := HK9.out.ps.lt
      have hk2 := HK9.out.wd.lt
      clear s0 s1 s2 s3 s4 s5
      rw [rounds_succ]
      go_wp2_with fail
    rotate_left 6
    · have HQ : Hid (compP T i = .bad 4 (tkAt T (i + 1)).line (tkAt T (i + 1)).col) := by unfold Hid; rw [HP.out, HCN.out, if_pos rfl]; rfl
      refine (cfail_any HK9.out.tk.rd (Nat.le_trans hB HK9.out.tk.low.size) 4 rfl).mono ?_
      rintro e wf ⟨rfl, hcf⟩
      have HF := Lib.hid (HK9.out.tk.trans hcf)
      clear hcf
      go_wp2
      go_ret
      exact CRes.bad HQ.out rfl HF.out
    all_goals
      obtain ⟨y, hy⟩ : ∃ y, tkAt T (i + 1 + 1) = y := ⟨_, rfl⟩
      have HY := Lib.hid hy
      have HPX : Hid (compP T i = if isWord y then .ok [⟨compN T (i + 1), wordName x, wordNum x, wordName y, wordNum y, ⟨#[]⟩, ⟨#[]⟩, x.line, x.col⟩] (i + 3) else .bad 4 y.line y.col) := by
        unfold Hid; rw [HP.out, HCN.out, if_neg (by decide)]; unfold badP; rw [show i + 2 = i + 1 + 1 by omega, hy]
      clear hy
      by_cases hw2 : isWord y = true
      · have HW2 := Lib.hid (show isWord (tkAt T (i + 1 + 1)) = true by rw [HY.out]; exact hw2)
        have HQ := Lib.hid HPX.out
        unfold Hid at HQ
        rw [if_pos hw2, HCN.out] at HQ
        have HQ := Lib.hid HQ
        clear hw2 HPX
        refine (word_ok HM.out.rd (Nat.le_trans hB HM.out.low.size) (by omega) (by omega) HW2.out).mono ?_
        rintro e wa ⟨rfl, hca⟩
        rw [HY.out]
        have hpa := HPM.out.kept hca.kept (by omega)
        have hwa := HWM.out.kept hca.kept (by omega)
        obtain ⟨p0, p1⟩ := hpa.facts
        obtain ⟨p2, p3⟩ := hwa.facts
        have hpl := hpa.lt
        have hwl := hwa.lt
        have HT := Lib.hid ((HM.out.trans hca).alloc hB (.cells #[.string (wordName y), .int .i64 (wordNum y)] 37))
        clear hca hpa hwa
        go_wp2_with fail
        refine (put_any HT.out.rd (Nat.le_trans hB HT.out.low.size) hO _ _ _ _ _ _ _ _ _ _ _).mono ?_
        rintro e wb ⟨rfl, ov', hp⟩
        have HF := Lib.hid (HT.out.trans hp)
        clear hp
        go_wp2
        go_ret
        exact CRes.ok HQ.out rfl (by have := HF.out; rwa [show i + 1 + 1 + 1 = i + 3 by omega] at this)
      · have HW2 := Lib.hid (show isWord (tkAt T (i + 1 + 1)) = false by rw [HY.out]; simpa using hw2)
        have HQ := Lib.hid HPX.out
        unfold Hid at HQ
        rw [if_neg hw2] at HQ
        have HQ := Lib.hid HQ
        clear hw2 HPX
        refine (word_bad HM.out.rd (Nat.le_trans hB HM.out.low.size) HW2.out).mono ?_
        rintro e wa ⟨rfl, hca⟩
        rw [HY.out] at hca
        have HF := Lib.hid ((HM.out.trans hca).alloc hB (.cells #[.string ⟨#[]⟩, .int .i64 0] 37))
        clear hca
        go_wp2
        go_ret
        exact CRes.bad HQ.out rfl HF.out
  · have HW := Lib.hid (show isWord (tkAt T i) = false by rw [HX.out]; simpa using hw)
    have HP : Hid (compP T i = badP T i 4) := by unfold Hid compP; rw [HX.out, if_neg hw]
    clear hw
    go_enter Tryz.func64, Tryz.ntmps64
    go_wp2_with fail
    refine HN.out.mono ?_
    rintro e w1 ⟨rfl, hb1⟩
    rw [HX.out]
    unfold tokV
    have HC1 := Lib.hid (((CTook.of_rd HR.out).then hb1 hB).alloc hB (.cells #[.int .i64 x.line, .int .i64 x.col] 29))
    clear hb1
    go_wp2_with fail
    refine (word_bad HC1.out.rd (Nat.le_trans hB HC1.out.low.size) HW.out).mono ?_
    rintro e w2 ⟨rfl, hc2⟩
    have HF := Lib.hid ((HC1.out.trans hc2).alloc hB (.cells #[.string ⟨#[]⟩, .int .i64 0] 37))
    clear hc2
    go_wp2
    go_ret
    exact CRes.bad HP.out rfl HF.out

end Go.Proofs.YthhjepgcbfmfeaaGreatDoor

namespace Go.Proofs.YthhjepgcbfmfeaaGreatDoor
open Go.RowKit

set_option maxRecDepth 100000 in
set_option maxHeartbeats 4000000 in
theorem atom_any {w : World} {B b : Nat} {lv : Value} {T : List Tk} {i : Int} {prop : Bool} {ov : Value} {O : List It} {line col : Int} (h : Cr w B b lv T i prop ov O 0 line col) (hB : B ≤ w.heap.size) (hlo : -9223372036854775808 ≤ i) (hhi : i ≤ 1800000) (hO : O.length ≤ 1000000) :
    Calls Tryz.prog 67 #[.pointer (some ⟨b, 0, none⟩), tokV (tkAt T i)] w (CRes w B b lv T prop O (atomP T prop i)) := by
  have HR := Lib.hid h
  have hbl := h.lt
  obtain ⟨x, hx⟩ : ∃ x, tkAt T i = x := ⟨_, rfl⟩
  have HX := Lib.hid hx
  rw [hx]
  have HC := Lib.hid ((CTook.of_rd h).alloc hB (.cells #[.int .i64 x.kind, .string x.text, .int .i64 x.num, .int .i64 x.line, .int .i64 x.col] 54))
  have HM := Lib.hid (((CTook.of_rd h).moved (i + 1)).alloc hB (.cells #[.int .i64 x.kind, .string x.text, .int .i64 x.num, .int .i64 x.line, .int .i64 x.col] 54))
  have hb0 : Below w.heap.size w (w.alloc (.cells #[.int .i64 x.kind, .string x.text, .int .i64 x.num, .int .i64 x.line, .int .i64 x.col] 54)) := (Below.refl _ w).alloc (Nat.le_refl _) _
  have HB0 := Lib.hid hb0
  obtain ⟨_, c1, c2, _, _, _, _⟩ := h.facts
  obtain ⟨f1, _, _, _, _⟩ := h.free
  clear h hx hb0
  unfold tokV
  have eOpen := eq_lit [111, 112, 101, 110] x.text
  have eDone := eq_lit [100, 111, 110, 101] x.text
  have eTrue := eq_lit [116, 114, 117, 101] x.text
  have eFalse := eq_lit [102, 97, 108, 115, 101] x.text
  have eCan := eq_lit [99, 97, 110] x.text
  have eDid := eq_lit [100, 105, 100] x.text
  have eComplete := eq_lit [99, 111, 109, 112, 108, 101, 116, 101] x.text
  have eStuck := eq_lit [115, 116, 117, 99, 107] x.text
  by_cases hOpen : x.text = wOpen
  · have HP : Hid (atomP T prop i = namedP T i 9) := by unfold Hid atomP; rw [HX.out, if_pos hOpen]
    rw [decide_eq_true (by exact hOpen)] at eOpen
    rw [show decide (x.text = ⟨#[100, 111, 110, 101]⟩) = false from by rw [hOpen]; decide] at eDone
    rw [show decide (x.text = ⟨#[116, 114, 117, 101]⟩) = false from by rw [hOpen]; decide] at eTrue
    rw [show decide (x.text = ⟨#[102, 97, 108, 115, 101]⟩) = false from by rw [hOpen]; decide] at eFalse
    rw [show decide (x.text = ⟨#[99, 97, 110]⟩) = false from by rw [hOpen]; decide] at eCan
    rw [show decide (x.text = ⟨#[100, 105, 100]⟩) = false from by rw [hOpen]; decide] at eDid
    rw [show decide (x.text = ⟨#[99, 111, 109, 112, 108, 101, 116, 101]⟩) = false from by rw [hOpen]; decide] at eComplete
    rw [show decide (x.text = ⟨#[115, 116, 117, 99, 107]⟩) = false from by rw [hOpen]; decide] at eStuck
    clear hOpen
    go_enter Tryz.func67, Tryz.ntmps67
    go_wp2_with fail
    refine (named_any HC.out.rd (Nat.le_trans hB HC.out.low.size) hlo (by omega) hO 9).mono ?_
    rintro e w1 hres
    have HS := Lib.hid (hres.after HB0.out hB)
    obtain ⟨q, rfl⟩ := hres.val
    clear hres
    go_wp2
    go_ret
    rw [HP.out]; exact HS.out
  by_cases hDone : x.text = wDone
  · have HP : Hid (atomP T prop i = namedP T i 10) := by unfold Hid atomP; rw [HX.out, if_neg hOpen, if_pos hDone]
    rw [show decide (x.text = ⟨#[111, 112, 101, 110]⟩) = false from by rw [hDone]; decide] at eOpen
    rw [decide_eq_true (by exact hDone)] at eDone
    rw [show decide (x.text = ⟨#[116, 114, 117, 101]⟩) = false from by rw [hDone]; decide] at eTrue
    rw [show decide (x.text = ⟨#[102, 97, 108, 115, 101]⟩) = false from by rw [hDone]; decide] at eFalse
    rw [show decide (x.text = ⟨#[99, 97, 110]⟩) = false from by rw [hDone]; decide] at eCan
    rw [show decide (x.text = ⟨#[100, 105, 100]⟩) = false from by rw [hDone]; decide] at eDid
    rw [show decide (x.text = ⟨#[99, 111, 109, 112, 108, 101, 116, 101]⟩) = false from by rw [hDone]; decide] at eComplete
    rw [show decide (x.text = ⟨#[115, 116, 117, 99, 107]⟩) = false from by rw [hDone]; decide] at eStuck
    clear hOpen hDone
    go_enter Tryz.func67, Tryz.ntmps67
    go_wp2_with fail
    refine (named_any HC.out.rd (Nat.le_trans hB HC.out.low.size) hlo (by omega) hO 10).mono ?_
    rintro e w1 hres
    have HS := Lib.hid (hres.after HB0.out hB)
    obtain ⟨q, rfl⟩ := hres.val
    clear hres
    go_wp2
    go_ret
    rw [HP.out]; exact HS.out
  by_cases hTrue : x.text = wTrue
  · have HP : Hid (atomP T prop i = .ok [item 1 x] (i + 1)) := by unfold Hid atomP; rw [HX.out, if_neg hOpen, if_neg hDone, if_pos hTrue]
    rw [show decide (x.text = ⟨#[111, 112, 101, 110]⟩) = false from by rw [hTrue]; decide] at eOpen
    rw [show decide (x.text = ⟨#[100, 111, 110, 101]⟩) = false from by rw [hTrue]; decide] at eDone
    rw [decide_eq_true (by exact hTrue)] at eTrue
    rw [show decide (x.text = ⟨#[102, 97, 108, 115, 101]⟩) = false from by rw [hTrue]; decide] at eFalse
    rw [show decide (x.text = ⟨#[99, 97, 110]⟩) = false from by rw [hTrue]; decide] at eCan
    rw [show decide (x.text = ⟨#[100, 105, 100]⟩) = false from by rw [hTrue]; decide] at eDid
    rw [show decide (x.text = ⟨#[99, 111, 109, 112, 108, 101, 116, 101]⟩) = false from by rw [hTrue]; decide] at eComplete
    rw [show decide (x.text = ⟨#[115, 116, 117, 99, 107]⟩) = false from by rw [hTrue]; decide] at eStuck
    clear hOpen hDone hTrue
    go_enter Tryz.func67, Tryz.ntmps67
    go_wp2_with fail
    refine (put_any HM.out.rd (Nat.le_trans hB HM.out.low.size) hO _ _ _ _ _ _ _ _ _ _ _).mono ?_
    rintro e w1 ⟨rfl, ov', hp⟩
    have HF := Lib.hid (HM.out.trans hp)
    clear hp
    go_wp2
    go_ret
    exact CRes.ok HP.out rfl HF.out
  by_cases hFalse : x.text = wFalse
  · have HP : Hid (atomP T prop i = .ok [item 2 x] (i + 1)) := by unfold Hid atomP; rw [HX.out, if_neg hOpen, if_neg hDone, if_neg hTrue, if_pos hFalse]
    rw [show decide (x.text = ⟨#[111, 112, 101, 110]⟩) = false from by rw [hFalse]; decide] at eOpen
    rw [show decide (x.text = ⟨#[100, 111, 110, 101]⟩) = false from by rw [hFalse]; decide] at eDone
    rw [show decide (x.text = ⟨#[116, 114, 117, 101]⟩) = false from by rw [hFalse]; decide] at eTrue
    rw [decide_eq_true (by exact hFalse)] at eFalse
    rw [show decide (x.text = ⟨#[99, 97, 110]⟩) = false from by rw [hFalse]; decide] at eCan
    rw [show decide (x.text = ⟨#[100, 105, 100]⟩) = false from by rw [hFalse]; decide] at eDid
    rw [show decide (x.text = ⟨#[99, 111, 109, 112, 108, 101, 116, 101]⟩) = false from by rw [hFalse]; decide] at eComplete
    rw [show decide (x.text = ⟨#[115, 116, 117, 99, 107]⟩) = false from by rw [hFalse]; decide] at eStuck
    clear hOpen hDone hTrue hFalse
    go_enter Tryz.func67, Tryz.ntmps67
    go_wp2_with fail
    refine (put_any HM.out.rd (Nat.le_trans hB HM.out.low.size) hO _ _ _ _ _ _ _ _ _ _ _).mono ?_
    rintro e w1 ⟨rfl, ov', hp⟩
    have HF := Lib.hid (HM.out.trans hp)
    clear hp
    go_wp2
    go_ret
    exact CRes.ok HP.out rfl HF.out
  rw [decide_eq_false (by exact hOpen)] at eOpen
  rw [decide_eq_false (by exact hDone)] at eDone
  rw [decide_eq_false (by exact hTrue)] at eTrue
  rw [decide_eq_false (by exact hFalse)] at eFalse
  cases prop
  · have HP : Hid (atomP T false i = .bad 4 x.line x.col) := by unfold Hid atomP; rw [HX.out, if_neg hOpen, if_neg hDone, if_neg hTrue, if_neg hFalse, if_pos rfl]; unfold badP; rw [HX.out]
    clear hOpen hDone hTrue hFalse eCan eDid eComplete eStuck
    go_enter Tryz.func67, Tryz.ntmps67
    go_wp2_with fail
    refine (cfail_any HC.out.rd (Nat.le_trans hB HC.out.low.size) 4 rfl).mono ?_
    rintro e w1 ⟨rfl, hp⟩
    rw [HX.out] at hp
    have HF := Lib.hid (HC.out.trans hp)
    clear hp
    go_wp2
    go_ret
    exact CRes.bad HP.out rfl HF.out
  · by_cases hCan : x.text = wCan
    · have HP : Hid (atomP T true i = namedP T i 11) := by unfold Hid atomP; rw [HX.out, if_neg hOpen, if_neg hDone, if_neg hTrue, if_neg hFalse, if_neg (by decide), if_pos hCan]
      rw [decide_eq_true (by exact hCan)] at eCan
      rw [show decide (x.text = ⟨#[100, 105, 100]⟩) = false from by rw [hCan]; decide] at eDid
      rw [show decide (x.text = ⟨#[99, 111, 109, 112, 108, 101, 116, 101]⟩) = false from by rw [hCan]; decide] at eComplete
      rw [show decide (x.text = ⟨#[115, 116, 117, 99, 107]⟩) = false from by rw [hCan]; decide] at eStuck
      clear hOpen hDone hTrue hFalse hCan
      go_enter Tryz.func67, Tryz.ntmps67
      go_wp2_with fail
      refine (named_any HC.out.rd (Nat.le_trans hB HC.out.low.size) hlo (by omega) hO 11).mono ?_
      rintro e w1 hres
      have HS := Lib.hid (hres.after HB0.out hB)
      obtain ⟨q, rfl⟩ := hres.val
      clear hres
      go_wp2
      go_ret
      rw [HP.out]; exact HS.out
    by_cases hDid : x.text = wDid
    · have HP : Hid (atomP T true i = didP T i) := by unfold Hid atomP; rw [HX.out, if_neg hOpen, if_neg hDone, if_neg hTrue, if_neg hFalse, if_neg (by decide), if_neg hCan, if_pos hDid]
      rw [show decide (x.text = ⟨#[99, 97, 110]⟩) = false from by rw [hDid]; decide] at eCan
      rw [decide_eq_true (by exact hDid)] at eDid
      rw [show decide (x.text = ⟨#[99, 111, 109, 112, 108, 101, 116, 101]⟩) = false from by rw [hDid]; decide] at eComplete
      rw [show decide (x.text = ⟨#[115, 116, 117, 99, 107]⟩) = false from by rw [hDid]; decide] at eStuck
      clear hOpen hDone hTrue hFalse hCan hDid
      go_enter Tryz.func67, Tryz.ntmps67
      go_wp2_with fail
      refine (did_any HC.out.rd (Nat.le_trans hB HC.out.low.size) hlo (by omega) hO).mono ?_
      rintro e w1 hres
      have HS := Lib.hid (hres.after HB0.out hB)
      obtain ⟨q, rfl⟩ := hres.val
      clear hres
      go_wp2
      go_ret
      rw [HP.out]; exact HS.out
    by_cases hComplete : x.text = wComplete
    · have HP : Hid (atomP T true i = .ok [item 13 x] (i + 1)) := by unfold Hid atomP; rw [HX.out, if_neg hOpen, if_neg hDone, if_neg hTrue, if_neg hFalse, if_neg (by decide), if_neg hCan, if_neg hDid, if_pos hComplete]
      rw [show decide (x.text = ⟨#[99, 97, 110]⟩) = false from by rw [hComplete]; decide] at eCan
      rw [show decide (x.text = ⟨#[100, 105, 100]⟩) = false from by rw [hComplete]; decide] at eDid
      rw [decide_eq_true (by exact hComplete)] at eComplete
      rw [show decide (x.text = ⟨#[115, 116, 117, 99, 107]⟩) = false from by rw [hComplete]; decide] at eStuck
      clear hOpen hDone hTrue hFalse hCan hDid hComplete
      go_enter Tryz.func67, Tryz.ntmps67
      go_wp2_with fail
      refine (put_any HM.out.rd (Nat.le_trans hB HM.out.low.size) hO _ _ _ _ _ _ _ _ _ _ _).mono ?_
      rintro e w1 ⟨rfl, ov', hp⟩
      have HF := Lib.hid (HM.out.trans hp)
      clear hp
      go_wp2
      go_ret
      exact CRes.ok HP.out rfl HF.out
    by_cases hStuck : x.text = wStuck
    · have HP : Hid (atomP T true i = .ok [item 14 x] (i + 1)) := by unfold Hid atomP; rw [HX.out, if_neg hOpen, if_neg hDone, if_neg hTrue, if_neg hFalse, if_neg (by decide), if_neg hCan, if_neg hDid, if_neg hComplete, if_pos hStuck]
      rw [show decide (x.text = ⟨#[99, 97, 110]⟩) = false from by rw [hStuck]; decide] at eCan
      rw [show decide (x.text = ⟨#[100, 105, 100]⟩) = false from by rw [hStuck]; decide] at eDid
      rw [show decide (x.text = ⟨#[99, 111, 109, 112, 108, 101, 116, 101]⟩) = false from by rw [hStuck]; decide] at eComplete
      rw [decide_eq_true (by exact hStuck)] at eStuck
      clear hOpen hDone hTrue hFalse hCan hDid hComplete hStuck
      go_enter Tryz.func67, Tryz.ntmps67
      go_wp2_with fail
      refine (put_any HM.out.rd (Nat.le_trans hB HM.out.low.size) hO _ _ _ _ _ _ _ _ _ _ _).mono ?_
      rintro e w1 ⟨rfl, ov', hp⟩
      have HF := Lib.hid (HM.out.trans hp)
      clear hp
      go_wp2
      go_ret
      exact CRes.ok HP.out rfl HF.out
    rw [decide_eq_false (by exact hCan)] at eCan
    rw [decide_eq_false (by exact hDid)] at eDid
    rw [decide_eq_false (by exact hComplete)] at eComplete
    rw [decide_eq_false (by exact hStuck)] at eStuck
    have HP : Hid (atomP T true i = .bad 4 x.line x.col) := by unfold Hid atomP; rw [HX.out, if_neg hOpen, if_neg hDone, if_neg hTrue, if_neg hFalse, if_neg (by decide), if_neg hCan, if_neg hDid, if_neg hComplete, if_neg hStuck]; unfold badP; rw [HX.out]
    clear hOpen hDone hTrue hFalse hCan hDid hComplete hStuck
    go_enter Tryz.func67, Tryz.ntmps67
    go_wp2_with fail
    refine (cfail_any HC.out.rd (Nat.le_trans hB HC.out.low.size) 4 rfl).mono ?_
    rintro e w1 ⟨rfl, hp⟩
    rw [HX.out] at hp
    have HF := Lib.hid (HC.out.trans hp)
    clear hp
    go_wp2
    go_ret
    exact CRes.bad HP.out rfl HF.out

end Go.Proofs.YthhjepgcbfmfeaaGreatDoor
