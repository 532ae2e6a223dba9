/- Contracts of the formulas' reader: named, did, word. Contracts of the formulas' reader: temporal, word. Contracts of the formulas' reader: compare, atom. -/
import Derived.Test.YthlofmnmacpogaaGreatDoorDe02

namespace Go.Proofs.YthlofmnmacpogaaGreatDoor
open Go.RowKit

theorem CTook.trans {w w1 w2 : World} {B b : Nat} {lv : Value} {T : List Tk} {i j : Int} {prop p2 : Bool} {ov ov2 : Value} {O O2 : List It} {er line col er2 line2 col2 : Int} (h : CTook w w1 B b lv T i prop ov O er line col) (k : CTook w1 w2 B b lv T j p2 ov2 O2 er2 line2 col2) : CTook w w2 B b lv T j p2 ov2 O2 er2 line2 col2 :=
  ⟨k.rd, h.low.trans k.low, h.kept.trans k.kept⟩
theorem CTook.alloc {w w1 : World} {B b : Nat} {lv : Value} {T : List Tk} {i : Int} {prop : Bool} {ov : Value} {O : List It} {er line col : Int} (h : CTook w w1 B b lv T i prop ov O er line col) (hB : B ≤ w.heap.size) (o : Obj) : CTook w (w1.alloc o) B b lv T i prop ov O er line col :=
  h.then ((Below.refl _ _).alloc (Nat.le_refl _) o) hB

/-- what reading leaves: the items read, and the place behind them; or what is wrong -/
def CRes (w : World) (B b : Nat) (lv : Value) (T : List Tk) (prop : Bool) (O : List It) (p : PR) (e : Ending) (w' : World) : Prop :=
  match p with
  | .ok o a => e = .returned (.bool true) ∧ ∃ ov l c, CTook w w' B b lv T a prop ov (O ++ o) 0 l c
  | .bad er l c => e = .returned (.bool false) ∧ ∃ ov O' i', CTook w w' B b lv T i' prop ov O' er l c
theorem CRes.ok {w w' : World} {B b : Nat} {lv : Value} {T : List Tk} {prop : Bool} {O o : List It} {a : Int} {ov : Value} {l c : Int} {e : Ending} {p : PR} (hp : p = .ok o a) (he : e = .returned (.bool true)) (h : CTook w w' B b lv T a prop ov (O ++ o) 0 l c) : CRes w B b lv T prop O p e w' := by
  subst hp; exact ⟨he, _, _, _, h⟩
theorem CRes.bad {w w' : World} {B b : Nat} {lv : Value} {T : List Tk} {prop : Bool} {O O' : List It} {i' : Int} {ov : Value} {er l c : Int} {e : Ending} {p : PR} (hp : p = .bad er l c) (he : e = .returned (.bool false)) (h : CTook w w' B b lv T i' prop ov O' er l c) : CRes w B b lv T prop O p e w' := by
  subst hp; exact ⟨he, _, _, _, h⟩

set_option maxHeartbeats 1000000 in
theorem named_any {w : World} {B b : Nat} {lv : Value} {T : List Tk} {i : Int} {prop : Bool} {ov : Value} {O : List It} {line col : Int} (h : Cr w B b lv T i prop ov O 0 line col) (hB : B ≤ w.heap.size) (hlo : -9223372036854775808 ≤ i) (hhi : i ≤ 1900000) (hO : O.length ≤ 1000000) (op : Int) :
    Calls Tryz.prog 151 #[.pointer (some ⟨b, 0, none⟩), .int .i64 op] w (CRes w B b lv T prop O (namedP T i op)) := by
  have HR := Lib.hid h
  obtain ⟨x, hx⟩ : ∃ x, tkAt T (i + 1) = x := ⟨_, rfl⟩
  have HX := Lib.hid hx
  obtain ⟨_, c1, _, _, _, _, _⟩ := h.facts
  obtain ⟨f1, _, _, _, _⟩ := h.free
  have HM := Lib.hid ((CTook.of_rd h).moved (i + 1))
  have HN := Lib.hid (name_any HM.out.rd (Nat.le_trans hB HM.out.low.size) (by omega) (by omega))
  clear h hx
  by_cases hk : x.kind = 1
  · have HK := Lib.hid hk
    have HP : Hid (namedP T i op = .ok [⟨op, ⟨#[]⟩, 0, ⟨#[]⟩, 0, x.text, ⟨#[]⟩, x.line, x.col⟩] (i + 2)) := by unfold Hid namedP; rw [HX.out, if_pos hk]
    clear hk
    go_enter Tryz.func151, Tryz.ntmps151
    go_wp2_with fail
    refine HN.out.mono ?_
    rintro e w1 ⟨rfl, hok, -⟩
    obtain ⟨l, c, hc⟩ := hok (by rw [HX.out]; exact HK.out)
    rw [HX.out, HK.out]
    unfold tokV
    have HT := Lib.hid ((HM.out.trans hc).alloc hB (.cells #[.int .i64 x.kind, .string x.text, .int .i64 x.num, .int .i64 x.line, .int .i64 x.col] 48))
    clear hc hok
    simp only [decide_true]
    go_wp2_with fail
    refine (put_any HT.out.rd (Nat.le_trans hB HT.out.low.size) hO _ _ _ _ _ _ _ _ _ _ _).mono ?_
    rintro e w2 ⟨rfl, ov', hp⟩
    have HF := Lib.hid (HT.out.trans hp)
    clear hp
    go_wp2
    go_ret
    exact CRes.ok HP.out rfl (by have := HF.out; rwa [show i + 1 + 1 = i + 2 by omega] at this)
  · have HK := Lib.hid hk
    have HP : Hid (namedP T i op = .bad 4 x.line x.col) := by unfold Hid namedP badP; rw [HX.out, if_neg hk]
    clear hk
    go_enter Tryz.func151, Tryz.ntmps151
    go_wp2_with fail
    refine HN.out.mono ?_
    rintro e w1 ⟨rfl, -, hbad⟩
    have hc := hbad (by rw [HX.out]; exact HK.out)
    rw [HX.out] at hc
    rw [HX.out, decide_eq_false HK.out]
    unfold tokV
    have HT := Lib.hid ((HM.out.trans hc).alloc hB (.cells #[.int .i64 x.kind, .string x.text, .int .i64 x.num, .int .i64 x.line, .int .i64 x.col] 48))
    clear hc hbad
    go_wp2
    go_ret
    exact CRes.bad HP.out rfl HT.out

set_option maxHeartbeats 1600000 in
theorem did_any {w : World} {B b : Nat} {lv : Value} {T : List Tk} {i : Int} {prop : Bool} {ov : Value} {O : List It} {line col : Int} (h : Cr w B b lv T i prop ov O 0 line col) (hB : B ≤ w.heap.size) (hlo : -9223372036854775808 ≤ i) (hhi : i ≤ 1900000) (hO : O.length ≤ 1000000) :
    Calls Tryz.prog 152 #[.pointer (some ⟨b, 0, none⟩)] w (CRes w B b lv T prop O (didP T i)) := by
  have HR := Lib.hid h
  obtain ⟨x, hx⟩ : ∃ x, tkAt T (i + 1) = x := ⟨_, rfl⟩
  obtain ⟨y, hy⟩ : ∃ y, tkAt T (i + 2) = y := ⟨_, rfl⟩
  have HX := Lib.hid hx
  have HY := Lib.hid hy
  obtain ⟨_, c1, _, _, _, _, _⟩ := h.facts
  obtain ⟨f1, _, _, _, _⟩ := h.free
  have HM := Lib.hid ((CTook.of_rd h).moved (i + 1))
  have HN := Lib.hid (name_any HM.out.rd (Nat.le_trans hB HM.out.low.size) (by omega) (by omega))
  clear h hx hy
  by_cases hk : x.kind = 1
  · have HK := Lib.hid hk
    clear hk
    by_cases hk2 : y.kind = 1
    · have HK2 := Lib.hid hk2
      have HP : Hid (didP T i = .ok [⟨12, ⟨#[]⟩, 0, ⟨#[]⟩, 0, y.text, x.text, x.line, x.col⟩] (i + 3)) := by unfold Hid didP; rw [HX.out, HY.out, if_pos HK.out, if_pos hk2]
      clear hk2
      go_enter Tryz.func152, Tryz.ntmps152
      go_wp2_with fail
      refine HN.out.mono ?_
      rintro e w1 ⟨rfl, hok, -⟩
      obtain ⟨l, c, hc⟩ := hok (by rw [HX.out]; exact HK.out)
      rw [HX.out, HK.out]
      unfold tokV
      have HT := Lib.hid ((HM.out.trans hc).alloc hB (.cells #[.int .i64 x.kind, .string x.text, .int .i64 x.num, .int .i64 x.line, .int .i64 x.col] 48))
      have HN2 := Lib.hid (name_any HT.out.rd (Nat.le_trans hB HT.out.low.size) (by omega) (by omega))
      have HTK := Lib.hid (show TkB (w1.alloc (.cells #[.int .i64 x.kind, .string x.text, .int .i64 x.num, .int .i64 x.line, .int .i64 x.col] 48)) w1.heap.size x from heap_alloc_new w1 _)
      have hb1 := hc.rd.lt
      clear hc hok
      simp only [decide_true]
      go_wp2_with fail
      refine HN2.out.mono ?_
      rintro e w2 ⟨rfl, hok, -⟩
      rw [show i + 1 + 1 = i + 2 by omega] at hok ⊢
      obtain ⟨l2, c2, hc⟩ := hok (by rw [HY.out]; exact HK2.out)
      rw [HY.out, HK2.out]
      unfold tokV
      have hx2 := HTK.out.kept hc.kept (by omega)
      obtain ⟨t0, t1, t2, t3, t4⟩ := hx2.facts
      have hlx := hx2.lt
      have HT2 := Lib.hid ((HT.out.trans hc).alloc hB (.cells #[.int .i64 y.kind, .string y.text, .int .i64 y.num, .int .i64 y.line, .int .i64 y.col] 48))
      clear hc hok hx2
      simp only [decide_true]
      go_wp2_with fail
      refine (put_any HT2.out.rd (Nat.le_trans hB HT2.out.low.size) hO _ _ _ _ _ _ _ _ _ _ _).mono ?_
      rintro e w3 ⟨rfl, ov', hp⟩
      have HF := Lib.hid (HT2.out.trans hp)
      clear hp
      go_wp2
      go_ret
      exact CRes.ok HP.out rfl (by have := HF.out; rwa [show i + 2 + 1 = i + 3 by omega] at this)
    · have HK2 := Lib.hid hk2
      have HP : Hid (didP T i = .bad 4 y.line y.col) := by unfold Hid didP badP; rw [HX.out, HY.out, if_pos HK.out, if_neg hk2]
      clear hk2
      go_enter Tryz.func152, Tryz.ntmps152
      go_wp2_with fail
      refine HN.out.mono ?_
      rintro e w1 ⟨rfl, hok, -⟩
      obtain ⟨l, c, hc⟩ := hok (by rw [HX.out]; exact HK.out)
      rw [HX.out, HK.out]
      unfold tokV
      have HT := Lib.hid ((HM.out.trans hc).alloc hB (.cells #[.int .i64 x.kind, .string x.text, .int .i64 x.num, .int .i64 x.line, .int .i64 x.col] 48))
      have HN2 := Lib.hid (name_any HT.out.rd (Nat.le_trans hB HT.out.low.size) (by omega) (by omega))
      clear hc hok
      simp only [decide_true]
      go_wp2_with fail
      refine HN2.out.mono ?_
      rintro e w2 ⟨rfl, -, hbad⟩
      rw [show i + 1 + 1 = i + 2 by omega] at hbad ⊢
      have hc := hbad (by rw [HY.out]; exact HK2.out)
      rw [HY.out] at hc
      rw [HY.out, decide_eq_false HK2.out]
      unfold tokV
      have HT2 := Lib.hid ((HT.out.trans hc).alloc hB (.cells #[.int .i64 y.kind, .string y.text, .int .i64 y.num, .int .i64 y.line, .int .i64 y.col] 48))
      clear hc hbad
      go_wp2
      go_ret
      exact CRes.bad HP.out rfl HT2.out
  · have HK := Lib.hid hk
    have HP : Hid (didP T i = .bad 4 x.line x.col) := by unfold Hid didP badP; rw [HX.out, if_neg hk]
    clear hk
    go_enter Tryz.func152, Tryz.ntmps152
    go_wp2_with fail
    refine HN.out.mono ?_
    rintro e w1 ⟨rfl, -, hbad⟩
    have hc := hbad (by rw [HX.out]; exact HK.out)
    rw [HX.out] at hc
    rw [HX.out, decide_eq_false HK.out]
    unfold tokV
    have HT := Lib.hid ((HM.out.trans hc).alloc hB (.cells #[.int .i64 x.kind, .string x.text, .int .i64 x.num, .int .i64 x.line, .int .i64 x.col] 48))
    clear hc hbad
    go_wp2
    go_ret
    exact CRes.bad HP.out rfl HT.out

end Go.Proofs.YthlofmnmacpogaaGreatDoor

namespace Go.Proofs.YthlofmnmacpogaaGreatDoor
open Go.RowKit

theorem lit_eq (l : List UInt8) (s : ByteArray) : (l == s.toList) = decide (s = ⟨l.toArray⟩) := by
  rw [Bool.eq_iff_iff, decide_eq_true_iff, beq_iff_eq, ByteArray.toList_eq]
  constructor
  · intro h; exact ByteArray.ext (by rw [h])
  · intro h; rw [h]
theorem eq_lit (l : List UInt8) (s : ByteArray) : (s.toList == l) = decide (s = ⟨l.toArray⟩) := by
  rw [Bool.eq_iff_iff, decide_eq_true_iff, beq_iff_eq, ByteArray.toList_eq]
  constructor
  · intro h; exact ByteArray.ext (by rw [← h])
  · intro h; rw [h]

set_option maxHeartbeats 1600000 in
theorem temporal_any (s : ByteArray) (w : World) :
    Calls Tryz.prog 137 #[.string s] w fun e w' => e = .returned (.int .i64 (tempN s)) ∧ Below w.heap.size w w' := by
  have e1 := lit_eq [65, 88] s
  have e2 := lit_eq [69, 88] s
  have e3 := lit_eq [65, 70] s
  have e4 := lit_eq [69, 70] s
  have e5 := lit_eq [65, 71] s
  have e6 := lit_eq [69, 71] s
  by_cases h1 : s = ⟨#[65, 88]⟩
  · have HT : Hid (tempN s = 19) := by unfold Hid tempN; rw [if_pos h1]
    rw [decide_eq_true (by exact h1)] at e1
    clear h1 e2 e3 e4 e5 e6
    go_enter Tryz.func137, Tryz.ntmps137
    go_wp2
    refine wp_loop_rounds 1 ?_
    rw [rounds_succ]; go_wp2
    go_ret
    exact ⟨ret_int HT.out.symm, (Below.refl _ _).alloc (Nat.le_refl _) _⟩
  rw [decide_eq_false (by exact h1)] at e1
  by_cases h2 : s = ⟨#[69, 88]⟩
  · have HT : Hid (tempN s = 20) := by unfold Hid tempN; rw [if_neg h1, if_pos h2]
    rw [decide_eq_true (by exact h2)] at e2
    clear h1 h2 e3 e4 e5 e6
    go_enter Tryz.func137, Tryz.ntmps137
    go_wp2
    refine wp_loop_rounds 2 ?_
    rw [rounds_succ]; go_wp2
    rw [rounds_succ]; go_wp2
    go_ret
    exact ⟨ret_int HT.out.symm, (Below.refl _ _).alloc (Nat.le_refl _) _⟩
  rw [decide_eq_false (by exact h2)] at e2
  by_cases h3 : s = ⟨#[65, 70]⟩
  · have HT : Hid (tempN s = 21) := by unfold Hid tempN; rw [if_neg h1, if_neg h2, if_pos h3]
    rw [decide_eq_true (by exact h3)] at e3
    clear h1 h2 h3 e4 e5 e6
    go_enter Tryz.func137, Tryz.ntmps137
    go_wp2
    refine wp_loop_rounds 3 ?_
    rw [rounds_succ]; go_wp2
    rw [rounds_succ]; go_wp2
    rw [rounds_succ]; go_wp2
    go_ret
    exact ⟨ret_int HT.out.symm, (Below.refl _ _).alloc (Nat.le_refl _) _⟩
  rw [decide_eq_false (by exact h3)] at e3
  by_cases h4 : s = ⟨#[69, 70]⟩
  · have HT : Hid (tempN s = 22) := by unfold Hid tempN; rw [if_neg h1, if_neg h2, if_neg h3, if_pos h4]
    rw [decide_eq_true (by exact h4)] at e4
    clear h1 h2 h3 h4 e5 e6
    go_enter Tryz.func137, Tryz.ntmps137
    go_wp2
    refine wp_loop_rounds 4 ?_
    rw [rounds_succ]; go_wp2
    rw [rounds_succ]; go_wp2
    rw [rounds_succ]; go_wp2
    rw [rounds_succ]; go_wp2
    go_ret
    exact ⟨ret_int HT.out.symm, (Below.refl _ _).alloc (Nat.le_refl _) _⟩
  rw [decide_eq_false (by exact h4)] at e4
  by_cases h5 : s = ⟨#[65, 71]⟩
  · have HT : Hid (tempN s = 23) := by unfold Hid tempN; rw [if_neg h1, if_neg h2, if_neg h3, if_neg h4, if_pos h5]
    rw [decide_eq_true (by exact h5)] at e5
    clear h1 h2 h3 h4 h5 e6
    go_enter Tryz.func137, Tryz.ntmps137
    go_wp2
    refine wp_loop_rounds 5 ?_
    rw [rounds_succ]; go_wp2
    rw [rounds_succ]; go_wp2
    rw [rounds_succ]; go_wp2
    rw [rounds_succ]; go_wp2
    rw [rounds_succ]; go_wp2
    go_ret
    exact ⟨ret_int HT.out.symm, (Below.refl _ _).alloc (Nat.le_refl _) _⟩
  rw [decide_eq_false (by exact h5)] at e5
  by_cases h6 : s = ⟨#[69, 71]⟩
  · have HT : Hid (tempN s = 24) := by unfold Hid tempN; rw [if_neg h1, if_neg h2, if_neg h3, if_neg h4, if_neg h5, if_pos h6]
    rw [decide_eq_true (by exact h6)] at e6
    clear h1 h2 h3 h4 h5 h6
    go_enter Tryz.func137, Tryz.ntmps137
    go_wp2
    refine wp_loop_rounds 6 ?_
    rw [rounds_succ]; go_wp2
    rw [rounds_succ]; go_wp2
    rw [rounds_succ]; go_wp2
    rw [rounds_succ]; go_wp2
    rw [rounds_succ]; go_wp2
    rw [rounds_succ]; go_wp2
    go_ret
    exact ⟨ret_int HT.out.symm, (Below.refl _ _).alloc (Nat.le_refl _) _⟩
  · have HT : Hid (tempN s = 0) := by unfold Hid tempN; rw [if_neg h1, if_neg h2, if_neg h3, if_neg h4, if_neg h5, if_neg h6]
    rw [decide_eq_false (by exact h6)] at e6
    clear h1 h2 h3 h4 h5 h6
    go_enter Tryz.func137, Tryz.ntmps137
    go_wp2
    refine wp_loop_rounds 7 ?_
    rw [rounds_succ]; go_wp2
    rw [rounds_succ]; go_wp2
    rw [rounds_succ]; go_wp2
    rw [rounds_succ]; go_wp2
    rw [rounds_succ]; go_wp2
    rw [rounds_succ]; go_wp2
    rw [rounds_succ]; go_wp2
    go_ret
    exact ⟨ret_int HT.out.symm, (Below.refl _ _).alloc (Nat.le_refl _) _⟩

/-- a word in a block of its own -/
def WdB (w : World) (b : Nat) (n : ByteArray) (m : Int) : Prop := w.heap[b]? = some (.cells #[.string n, .int .i64 m] 85 (0, 0))
theorem WdB.facts {w : World} {b : Nat} {n : ByteArray} {m : Int} (h : WdB w b n m) : w.cell? ⟨b, 0, none⟩ = some (.string n) ∧ w.cell? ⟨b, 1, none⟩ = some (.int .i64 m) := by
  unfold WdB at h
  refine ⟨?_, ?_⟩ <;> simp [World.cell?, h]
theorem WdB.free {w : World} {b : Nat} {n : ByteArray} {m : Int} (h : WdB w b n m) : w.frozen? ⟨b, 0, none⟩ = false ∧ w.frozen? ⟨b, 1, none⟩ = false := by
  unfold WdB at h
  refine ⟨?_, ?_⟩ <;> simp [World.frozen?, h]
theorem WdB.stored {w : World} {b : Nat} {n n2 : ByteArray} {m m2 : Int} (h : WdB w b n m) : WdB ((w.setCell ⟨b, 0, none⟩ (.string n2)).setCell ⟨b, 1, none⟩ (.int .i64 m2)) b n2 m2 :=
  heap_setCell_same _ b 1 _ _ (.int .i64 m2) (heap_setCell_same w b 0 _ _ (.string n2) h)
theorem WdB.lt {w : World} {b : Nat} {n : ByteArray} {m : Int} (h : WdB w b n m) : b < w.heap.size := (Array.getElem?_eq_some_iff.1 h).1
theorem WdB.below {w w' : World} {b B : Nat} {n : ByteArray} {m : Int} (h : WdB w b n m) (hb : Below B w w') (hB : b < B) : WdB w' b n m := (hb.block b hB).trans h
theorem WdB.alloc {w : World} {b : Nat} {n : ByteArray} {m : Int} (h : WdB w b n m) (o : Obj) : WdB (w.alloc o) b n m := (Below.heap_alloc _ _ _ h.lt).trans h
theorem WdB.setOther {w : World} {b g j : Nat} {n : ByteArray} {m : Int} (h : WdB w b n m) (hne : g ≠ b) (u : Value) : WdB (w.setCell ⟨g, j, none⟩ u) b n m := (Below.heap_setCell _ _ _ _ (by show b ≠ g; omega)).trans h
theorem WdB.kept {w w' : World} {b k : Nat} {n : ByteArray} {m : Int} (h : WdB w k n m) (ht : Lib.OthersKept 87 (some b) w w') (hkb : k ≠ b) : WdB w' k n m :=
  ht k _ h (fun e => hkb (Option.some.inj e)) (fun c fz e => by simp at e)
/-- a store into a word of the step's own -/
theorem CTook.storedWord {w w1 : World} {B b : Nat} {lv : Value} {T : List Tk} {i : Int} {prop : Bool} {ov : Value} {O : List It} {er line col : Int} (h : CTook w w1 B b lv T i prop ov O er line col) {k : Nat} {n n2 : ByteArray} {m m2 : Int} (hx : WdB w1 k n m) (hk : w.heap.size ≤ k) (hb : b < w.heap.size) (hB : B ≤ w.heap.size) :
    CTook w ((w1.setCell ⟨k, 0, none⟩ (.string n2)).setCell ⟨k, 1, none⟩ (.int .i64 m2)) B b lv T i prop ov O er line col := by
  have one : ∀ (W : World) (cs : Array Value) (j : Nat) (u : Value), W.heap[k]? = some (.cells cs 85 (0, 0)) → CTook w W B b lv T i prop ov O er line col → CTook w (W.setCell ⟨k, j, none⟩ u) B b lv T i prop ov O er line col := by
    intro W cs j u hW h
    have hbb : Below B W (W.setCell ⟨k, j, none⟩ u) := (Below.refl B W).setCell (p := ⟨k, j, none⟩) (by show B ≤ k; omega) _
    refine ⟨⟨?_, h.rd.low, h.rd.tk.below hbb, row_store h.rd.out hW (by decide) j u⟩, h.low.trans hbb, ?_⟩
    · rw [Below.heap_setCell _ _ _ _ (by show b ≠ k; omega)]; exact h.rd.blk
    · intro q o hq hqb hqo
      rw [Below.heap_setCell _ _ _ _ (by show q ≠ k; have := (Array.getElem?_eq_some_iff.1 hq).1; omega)]
      exact h.kept q o hq hqb hqo
  exact one _ _ 1 _ (heap_setCell_same w1 k 0 _ _ (.string n2) hx) (one _ _ 0 _ hx h)

set_option maxHeartbeats 1000000 in
/-- word, where one stands -/
theorem word_ok {w : World} {B b : Nat} {lv : Value} {T : List Tk} {i : Int} {prop : Bool} {ov : Value} {O : List It} {line col : Int} (h : Cr w B b lv T i prop ov O 0 line col) (hB : B ≤ w.heap.size) (hlo : -9223372036854775808 ≤ i) (hhi : i ≤ 1900000) (hk : isWord (tkAt T i) = true) :
    Calls Tryz.prog 150 #[.pointer (some ⟨b, 0, none⟩)] w fun e w' => e = .returned (.tuple #[.agg #[.string (wordName (tkAt T i)), .int .i64 (wordNum (tkAt T i))], .bool true]) ∧ CTook w w' B b lv T (i + 1) prop ov O 0 line col := by
  have HR := Lib.hid h
  obtain ⟨x, hx⟩ : ∃ x, tkAt T i = x := ⟨_, rfl⟩
  have HX := Lib.hid hx
  rw [hx] at hk ⊢
  have HN := Lib.hid (now_any (HR.out.keep ((Below.refl _ _).alloc (Nat.le_refl _) (.cells #[.string ⟨#[]⟩, .int .i64 0] 85)) hB))
  have hbl := h.lt
  clear h hx
  have h13 : x.kind = 1 ∨ x.kind = 3 := by unfold isWord at hk; simpa using hk
  clear hk
  have fin : ∀ (n : ByteArray) (m : Int) (w1 : World), Below (w.alloc (.cells #[.string ⟨#[]⟩, .int .i64 0] 85)).heap.size (w.alloc (.cells #[.string ⟨#[]⟩, .int .i64 0] 85)) w1 →
      (w.heap.size < w1.heap.size ∧ b < w1.heap.size) ∧ (w1.cell? ⟨b, 1, none⟩ = some (.int .i64 i) ∧ w1.frozen? ⟨b, 1, none⟩ = false) ∧ (w1.cell? ⟨w.heap.size, 0, none⟩ = some (.string ⟨#[]⟩) ∧ w1.cell? ⟨w.heap.size, 1, none⟩ = some (.int .i64 0) ∧ w1.frozen? ⟨w.heap.size, 0, none⟩ = false ∧ w1.frozen? ⟨w.heap.size, 1, none⟩ = false) ∧
      Hid (∀ o, CTook w ((((w1.setCell ⟨b, 1, none⟩ (.int .i64 (i + 1))).setCell ⟨w.heap.size, 0, none⟩ (.string n)).setCell ⟨w.heap.size, 1, none⟩ (.int .i64 m)).alloc o) B b lv T (i + 1) prop ov O 0 line col ∧
        WdB ((((w1.setCell ⟨b, 1, none⟩ (.int .i64 (i + 1))).setCell ⟨w.heap.size, 0, none⟩ (.string n)).setCell ⟨w.heap.size, 1, none⟩ (.int .i64 m)).alloc o) w.heap.size n m) := by
    intro n m w1 hb1
    have HC := ((CTook.of_rd HR.out).alloc hB (.cells #[.string ⟨#[]⟩, .int .i64 0] 85)).then hb1 hB
    have hw0 : WdB w1 w.heap.size ⟨#[]⟩ 0 := (show WdB (w.alloc (.cells #[.string ⟨#[]⟩, .int .i64 0] 85)) w.heap.size ⟨#[]⟩ 0 from heap_alloc_new w _).below hb1 (by simp)
    have hw1 := hw0.setOther (g := b) (j := 1) (by omega) (.int .i64 (i + 1))
    obtain ⟨_, c1, _, _, _, _, _⟩ := HC.rd.facts
    obtain ⟨f1, _, _, _, _⟩ := HC.rd.free
    exact ⟨⟨hw0.lt, HC.rd.lt⟩, ⟨c1, f1⟩, ⟨hw0.facts.1, hw0.facts.2, hw0.free.1, hw0.free.2⟩, fun o => ⟨((HC.moved (i + 1)).storedWord hw1 (Nat.le_refl _) hbl hB).alloc hB o, hw1.stored.alloc o⟩⟩
  have FIN := Lib.hid fin
  clear fin
  rcases h13 with h1 | h1
  · have hkb : (x.kind == 1) = true := by rw [beq_iff_eq]; exact h1
    have HW : Hid (wordName x = x.text ∧ wordNum x = 0) := by unfold Hid wordName wordNum; rw [if_pos h1, if_pos h1]; exact ⟨rfl, rfl⟩
    clear h1
    go_enter Tryz.func150, Tryz.ntmps150
    go_wp2_with fail
    refine HN.out.mono ?_
    rintro e w1 ⟨rfl, hb1⟩
    rw [HX.out]
    unfold tokV
    obtain ⟨⟨g1, g2⟩, ⟨c1, f1⟩, ⟨r0, r1, r2, r3⟩, HM⟩ := FIN.out x.text 0 w1 hb1
    clear hb1
    go_wp2
    obtain ⟨q, d⟩ := HM.out (.cells #[.int .i64 x.kind, .string x.text, .int .i64 x.num, .int .i64 x.line, .int .i64 x.col] 48)
    obtain ⟨e0, e1⟩ := d.facts
    exact bodyPost_ret (v := .tuple #[.agg #[.string x.text, .int .i64 0], .bool true]) (by simp [results, Tryz.results150, go_sem, e0, e1]) rfl ⟨by rw [HW.out.1, HW.out.2], q⟩
  · have hkb : (x.kind == 1) = false := by rw [beq_eq_false_iff_ne]; omega
    have hkc : (x.kind == 3) = true := by rw [beq_iff_eq]; exact h1
    have HW : Hid (wordName x = ⟨#[]⟩ ∧ wordNum x = x.num) := by unfold Hid wordName wordNum; rw [if_neg (by omega), if_neg (by omega)]; exact ⟨rfl, rfl⟩
    clear h1
    go_enter Tryz.func150, Tryz.ntmps150
    go_wp2_with fail
    refine HN.out.mono ?_
    rintro e w1 ⟨rfl, hb1⟩
    rw [HX.out]
    unfold tokV
    obtain ⟨⟨g1, g2⟩, ⟨c1, f1⟩, ⟨r0, r1, r2, r3⟩, HM⟩ := FIN.out ⟨#[]⟩ x.num w1 hb1
    clear hb1
    go_wp2
    obtain ⟨q, d⟩ := HM.out (.cells #[.int .i64 x.kind, .string x.text, .int .i64 x.num, .int .i64 x.line, .int .i64 x.col] 48)
    obtain ⟨e0, e1⟩ := d.facts
    exact bodyPost_ret (v := .tuple #[.agg #[.string ⟨#[]⟩, .int .i64 x.num], .bool true]) (by simp [results, Tryz.results150, go_sem, e0, e1]) rfl ⟨by rw [HW.out.1, HW.out.2], q⟩

set_option maxHeartbeats 1000000 in
/-- word, where none stands -/
theorem word_bad {w : World} {B b : Nat} {lv : Value} {T : List Tk} {i : Int} {prop : Bool} {ov : Value} {O : List It} {line col : Int} (h : Cr w B b lv T i prop ov O 0 line col) (hB : B ≤ w.heap.size) (hk : isWord (tkAt T i) = false) :
    Calls Tryz.prog 150 #[.pointer (some ⟨b, 0, none⟩)] w fun e w' => e = .returned (.tuple #[.agg #[.string ⟨#[]⟩, .int .i64 0], .bool false]) ∧ CTook w w' B b lv T i prop ov O 4 (tkAt T i).line (tkAt T i).col := by
  have HR := Lib.hid h
  obtain ⟨x, hx⟩ : ∃ x, tkAt T i = x := ⟨_, rfl⟩
  have HX := Lib.hid hx
  rw [hx] at hk ⊢
  have HN := Lib.hid (now_any (HR.out.keep ((Below.refl _ _).alloc (Nat.le_refl _) (.cells #[.string ⟨#[]⟩, .int .i64 0] 85)) hB))
  have hbl := h.lt
  clear h hx
  have h13 : ¬ x.kind = 1 ∧ ¬ x.kind = 3 := by unfold isWord at hk; simpa using hk
  have hkb : (x.kind == 1) = false := by rw [beq_eq_false_iff_ne]; exact h13.1
  have hkc : (x.kind == 3) = false := by rw [beq_eq_false_iff_ne]; exact h13.2
  clear hk h13
  go_enter Tryz.func150, Tryz.ntmps150
  go_wp2_with fail
  refine HN.out.mono ?_
  rintro e w1 ⟨rfl, hb1⟩
  rw [HX.out]
  unfold tokV
  have HC := Lib.hid ((((CTook.of_rd HR.out).alloc hB (.cells #[.string ⟨#[]⟩, .int .i64 0] 85)).then hb1 hB).alloc hB (.cells #[.int .i64 x.kind, .string x.text, .int .i64 x.num, .int .i64 x.line, .int .i64 x.col] 48))
  have HW := Lib.hid (((show WdB (w.alloc (.cells #[.string ⟨#[]⟩, .int .i64 0] 85)) w.heap.size ⟨#[]⟩ 0 from heap_alloc_new w _).below hb1 (by simp)).alloc (.cells #[.int .i64 x.kind, .string x.text, .int .i64 x.num, .int .i64 x.line, .int .i64 x.col] 48))
  clear hb1
  go_wp2_with fail
  refine (cfail_any HC.out.rd (Nat.le_trans hB HC.out.low.size) 4 rfl).mono ?_
  rintro e w2 ⟨rfl, hc2⟩
  rw [HX.out] at hc2
  have hw2 := HW.out.kept hc2.kept (by omega)
  obtain ⟨r0, r1⟩ := hw2.facts
  obtain ⟨r2, r3⟩ := hw2.free
  have HF := Lib.hid ((HC.out.trans hc2).storedWord (n2 := ⟨#[]⟩) (m2 := 0) hw2 (Nat.le_refl _) hbl hB)
  have HE := Lib.hid (hw2.stored (n2 := ⟨#[]⟩) (m2 := 0)).facts
  clear hc2 hw2
  go_wp2
  obtain ⟨e0, e1⟩ := HE.out
  exact bodyPost_ret (v := .tuple #[.agg #[.string ⟨#[]⟩, .int .i64 0], .bool false]) (by simp [results, Tryz.results150, go_sem, e0, e1]) rfl ⟨rfl, HF.out⟩

end Go.Proofs.YthlofmnmacpogaaGreatDoor

namespace Go.Proofs.YthlofmnmacpogaaGreatDoor
open Go.RowKit

theorem CRes.after {w w1 w' : World} {B b : Nat} {lv : Value} {T : List Tk} {prop : Bool} {O : List It} {p : PR} {e : Ending} (h : CRes w1 B b lv T prop O p e w') (hb : Below w.heap.size w w1) (hB : B ≤ w.heap.size) : CRes w B b lv T prop O p e w' := by
  cases p with
  | ok o a => obtain ⟨he, ov, l, c, h⟩ := h; exact ⟨he, ov, l, c, h.after hb hB⟩
  | bad er l c => obtain ⟨he, ov, O', i', h⟩ := h; exact ⟨he, ov, O', i', h.after hb hB⟩
theorem CRes.val {w w' : World} {B b : Nat} {lv : Value} {T : List Tk} {prop : Bool} {O : List It} {p : PR} {e : Ending} (h : CRes w B b lv T prop O p e w') : ∃ q, e = .returned (.bool q) := by
  cases p with
  | ok o a => exact ⟨_, h.1⟩
  | bad er l c => exact ⟨_, h.1⟩

/-- a place in a block of its own -/
def PsB (w : World) (b : Nat) (l c : Int) : Prop := w.heap[b]? = some (.cells #[.int .i64 l, .int .i64 c] 26 (0, 0))
theorem PsB.facts {w : World} {b : Nat} {l c : Int} (h : PsB w b l c) : w.cell? ⟨b, 0, none⟩ = some (.int .i64 l) ∧ w.cell? ⟨b, 1, none⟩ = some (.int .i64 c) := by
  unfold PsB at h
  refine ⟨?_, ?_⟩ <;> simp [World.cell?, h]
theorem PsB.lt {w : World} {b : Nat} {l c : Int} (h : PsB w b l c) : b < w.heap.size := (Array.getElem?_eq_some_iff.1 h).1
theorem PsB.below {w w' : World} {b : Nat} {l c : Int} (h : PsB w b l c) (hb : Below w.heap.size w w') : PsB w' b l c := (hb.block b h.lt).trans h
theorem PsB.alloc {w : World} {b : Nat} {l c : Int} (h : PsB w b l c) (o : Obj) : PsB (w.alloc o) b l c := (Below.heap_alloc _ _ _ h.lt).trans h
theorem PsB.setOther {w : World} {b g j : Nat} {l c : Int} (h : PsB w b l c) (hne : g ≠ b) (u : Value) : PsB (w.setCell ⟨g, j, none⟩ u) b l c := (Below.heap_setCell _ _ _ _ (by show b ≠ g; omega)).trans h
theorem PsB.kept {w w' : World} {b k : Nat} {l c : Int} (h : PsB w k l c) (ht : Lib.OthersKept 87 (some b) w w') (hkb : k ≠ b) : PsB w' k l c :=
  ht k _ h (fun e => hkb (Option.some.inj e)) (fun c fz e => by simp at e)
theorem WdB.then {w w' : World} {b : Nat} {n : ByteArray} {m : Int} (h : WdB w b n m) (hb : Below w.heap.size w w') : WdB w' b n m := (hb.block b h.lt).trans h

/-- the six signs in a block of their own -/
def SgB (w : World) (b : Nat) : Prop := w.heap[b]? = some (.cells #[.string ⟨#[60]⟩, .string ⟨#[60, 61]⟩, .string ⟨#[62]⟩, .string ⟨#[62, 61]⟩, .string ⟨#[61]⟩, .string ⟨#[33, 61]⟩] 9 (0, 0))
theorem SgB.facts {w : World} {b : Nat} (h : SgB w b) : w.cell? ⟨b, 0, none⟩ = some (.string ⟨#[60]⟩) ∧ w.cell? ⟨b, 1, none⟩ = some (.string ⟨#[60, 61]⟩) ∧ w.cell? ⟨b, 2, none⟩ = some (.string ⟨#[62]⟩) ∧ w.cell? ⟨b, 3, none⟩ = some (.string ⟨#[62, 61]⟩) ∧ w.cell? ⟨b, 4, none⟩ = some (.string ⟨#[61]⟩) ∧ w.cell? ⟨b, 5, none⟩ = some (.string ⟨#[33, 61]⟩) := by
  unfold SgB at h
  refine ⟨?_, ?_, ?_, ?_, ?_, ?_⟩ <;> simp [World.cell?, h]
theorem SgB.lt {w : World} {b : Nat} (h : SgB w b) : b < w.heap.size := (Array.getElem?_eq_some_iff.1 h).1

/-- where compare stands in its loop -/
structure CmpK (w W : World) (B b : Nat) (lv : Value) (T : List Tk) (i : Int) (prop : Bool) (ov : Value) (O : List It) (er line col : Int) (kp ka g : Nat) (pl pc : Int) (n : ByteArray) (m : Int) : Prop where
  tk : CTook w W B b lv T i prop ov O er line col
  ps : PsB W kp pl pc
  wd : WdB W ka n m
  sg : SgB W g
theorem CmpK.then {w W W' : World} {B b : Nat} {lv : Value} {T : List Tk} {i : Int} {prop : Bool} {ov : Value} {O : List It} {er line col : Int} {kp ka g : Nat} {pl pc : Int} {n : ByteArray} {m : Int} (h : CmpK w W B b lv T i prop ov O er line col kp ka g pl pc n m) (hb : Below W.heap.size W W') (hB : B ≤ w.heap.size) : CmpK w W' B b lv T i prop ov O er line col kp ka g pl pc n m :=
  ⟨h.tk.then hb hB, h.ps.below hb, h.wd.then hb, (hb.block g h.sg.lt).trans h.sg⟩

/-- which of the six signs stands there: at most one -/
theorem comp_cases (T : List Tk) (i : Int) : ∃ q0 q1 q2 q3 q4 q5 : Bool, (isTk T i 4 ⟨#[60]⟩ = q0 ∧ isTk T i 4 ⟨#[60, 61]⟩ = q1 ∧ isTk T i 4 ⟨#[62]⟩ = q2 ∧ isTk T i 4 ⟨#[62, 61]⟩ = q3 ∧ isTk T i 4 ⟨#[61]⟩ = q4 ∧ isTk T i 4 ⟨#[33, 61]⟩ = q5) ∧
    ((q0 = true ∧ q1 = false ∧ q2 = false ∧ q3 = false ∧ q4 = false ∧ q5 = false ∧ compN T i = 3) ∨ (q0 = false ∧ q1 = true ∧ q2 = false ∧ q3 = false ∧ q4 = false ∧ q5 = false ∧ compN T i = 4) ∨ (q0 = false ∧ q1 = false ∧ q2 = true ∧ q3 = false ∧ q4 = false ∧ q5 = false ∧ compN T i = 5) ∨ (q0 = false ∧ q1 = false ∧ q2 = false ∧ q3 = true ∧ q4 = false ∧ q5 = false ∧ compN T i = 6) ∨ (q0 = false ∧ q1 = false ∧ q2 = false ∧ q3 = false ∧ q4 = true ∧ q5 = false ∧ compN T i = 7) ∨ (q0 = false ∧ q1 = false ∧ q2 = false ∧ q3 = false ∧ q4 = false ∧ q5 = true ∧ compN T i = 8) ∨ (q0 = false ∧ q1 = false ∧ q2 = false ∧ q3 = false ∧ q4 = false ∧ q5 = false ∧ compN T i = 0)) := by
  refine ⟨_, _, _, _, _, _, ⟨rfl, rfl, rfl, rfl, rfl, rfl⟩, ?_⟩
  unfold isTk compN
  obtain ⟨x, hx⟩ : ∃ x, tkAt T i = x := ⟨_, rfl⟩
  rw [hx]
  by_cases hk : x.kind = 4
  · rw [if_neg (by omega), decide_eq_true hk]
    simp only [Bool.true_and]
    by_cases h0 : x.text = ⟨#[60]⟩
    · rw [h0]; clear hx h0; decide
    by_cases h1 : x.text = ⟨#[60, 61]⟩
    · rw [h1]; clear hx h1 h0; decide
    by_cases h2 : x.text = ⟨#[62]⟩
    · rw [h2]; clear hx h2 h0 h1; decide
    by_cases h3 : x.text = ⟨#[62, 61]⟩
    · rw [h3]; clear hx h3 h0 h1 h2; decide
    by_cases h4 : x.text = ⟨#[61]⟩
    · rw [h4]; clear hx h4 h0 h1 h2 h3; decide
    by_cases h5 : x.text = ⟨#[33, 61]⟩
    · rw [h5]; clear hx h5 h0 h1 h2 h3 h4; decide
    simp [h0, h1, h2, h3, h4, h5]
  · rw [if_pos hk, decide_eq_false hk]
    simp only [Bool.false_and]
    simp

set_option maxRecDepth 100000 in
set_option maxHeartbeats 4000000 in
theorem compare_any {w : World} {B b : Nat} {lv : Value} {T : List Tk} {i : Int} {prop : Bool} {ov : Value} {O : List It} {line col : Int} (h : Cr w B b lv T i prop ov O 0 line col) (hB : B ≤ w.heap.size) (hlo : -9223372036854775808 ≤ i) (hhi : i ≤ 1800000) (hO : O.length ≤ 1000000) :
    Calls Tryz.prog 136 #[.pointer (some ⟨b, 0, none⟩)] w (CRes w B b lv T prop O (compP T i)) := by
  have HR := Lib.hid h
  have hbl := h.lt
  obtain ⟨x, hx⟩ : ∃ x, tkAt T i = x := ⟨_, rfl⟩
  have HX := Lib.hid hx
  have HN := Lib.hid (now_any h)
  clear h hx
  have hfd : ∀ w : World, (Instr.field 48 (.agg #[.int .i64 x.kind, .string x.text, .int .i64 x.num, .int .i64 x.line, .int .i64 x.col]) 3).run Tryz.prog w = .ok (.agg #[.int .i64 x.line, .int .i64 x.col]) w := fun _ => by kernel_rfl
  by_cases hw : isWord x = true
  · have HW := Lib.hid (show isWord (tkAt T i) = true by rw [HX.out]; exact hw)
    obtain ⟨q0, q1, q2, q3, q4, q5, ⟨e0, e1, e2, e3, e4, e5⟩, hq⟩ := comp_cases T (i + 1)
    have E0 := Lib.hid e0; have E1 := Lib.hid e1; have E2 := Lib.hid e2; have E3 := Lib.hid e3; have E4 := Lib.hid e4; have E5 := Lib.hid e5
    clear e0 e1 e2 e3 e4 e5
    have HP : Hid (compP T i = if compN T (i + 1) = 0 then badP T (i + 1) 4
      else if isWord (tkAt T (i + 2)) then .ok [⟨compN T (i + 1), wordName x, wordNum x, wordName (tkAt T (i + 2)), wordNum (tkAt T (i + 2)), ⟨#[]⟩, ⟨#[]⟩, x.line, x.col⟩] (i + 3)
      else badP T (i + 2) 4) := by unfold Hid compP; rw [HX.out, if_pos hw]
    clear hw
    rcases hq with ⟨rfl, rfl, rfl, rfl, rfl, rfl, hc⟩ | ⟨rfl, rfl, rfl, rfl, rfl, rfl, hc⟩ | ⟨rfl, rfl, rfl, rfl, rfl, rfl, hc⟩ | ⟨rfl, rfl, rfl, rfl, rfl, rfl, hc⟩ | ⟨rfl, rfl, rfl, rfl, rfl, rfl, hc⟩ | ⟨rfl, rfl, rfl, rfl, rfl, rfl, hc⟩ | ⟨rfl, rfl, rfl, rfl, rfl, rfl, hc⟩
    all_goals
      have HCN := Lib.hid hc
      clear hc
      go_enter Tryz.func136, Tryz.ntmps136
      go_wp2_with fail
      refine HN.out.mono ?_
      rintro e w1 ⟨rfl, hb1⟩
      rw [HX.out]
      unfold tokV
      have HC1 := Lib.hid (((CTook.of_rd HR.out).then hb1 hB).alloc hB (.cells #[.int .i64 x.line, .int .i64 x.col] 26))
      have HP1 := Lib.hid (show PsB (w1.alloc (.cells #[.int .i64 x.line, .int .i64 x.col] 26)) w1.heap.size x.line x.col from heap_alloc_new w1 _)
      have hs1 := hb1.size
      clear hb1
      go_wp2_with fail
      refine (word_ok HC1.out.rd (Nat.le_trans hB HC1.out.low.size) hlo (by omega) HW.out).mono ?_
      rintro e w2 ⟨rfl, hc2⟩
      rw [HX.out]
      have hbz := hc2.rd.lt
      have hp2 := HP1.out.kept hc2.kept (by omega)
      have hpl := hp2.lt
      have HK3 : Hid (CmpK w ((w2.alloc (.cells #[.string (wordName x), .int .i64 (wordNum x)] 85)).alloc (.cells #[.string ⟨#[60]⟩, .string ⟨#[60, 61]⟩, .string ⟨#[62]⟩, .string ⟨#[62, 61]⟩, .string ⟨#[61]⟩, .string ⟨#[33, 61]⟩] 9)) B b lv T (i + 1) prop ov O 0 line col w1.heap.size w2.heap.size (w2.heap.size + 1) x.line x.col (wordName x) (wordNum x)) :=
        ⟨((HC1.out.trans hc2).alloc hB _).alloc hB _, (hp2.alloc _).alloc _, (show WdB (w2.alloc (.cells #[.string (wordName x), .int .i64 (wordNum x)] 85)) w2.heap.size (wordName x) (wordNum x) from heap_alloc_new w2 _).alloc _, by have := heap_alloc_new (w2.alloc (.cells #[.string (wordName x), .int .i64 (wordNum x)] 85)) (.cells #[.string ⟨#[60]⟩, .string ⟨#[60, 61]⟩, .string ⟨#[62]⟩, .string ⟨#[62, 61]⟩, .string ⟨#[61]⟩, .string ⟨#[33, 61]⟩] 9); rw [World.size_alloc] at this; exact this⟩
      have hs2 := hp2.lt
      clear hc2 hp2
      go_wp2
      refine wp_loop_rounds 7 ?_
      rw [rounds_succ]
      go_wp2_with fail
      refine (is_any HK3.out.tk.rd 4 ⟨#[60]⟩).mono ?_
      rintro e w4 ⟨rfl, hb⟩
      rw [E0.out]
      have HK4 := Lib.hid (HK3.out.then hb hB)
      obtain ⟨s0, s1, s2, s3, s4, s5⟩ := HK4.out.sg.facts
      have hl4 := HK4.out.sg.lt
      clear hb
      skip
      go_wp2
      rw [rounds_succ]
      go_wp2_with fail
      refine (is_any HK4.out.tk.rd 4 ⟨#[60, 61]⟩).mono ?_
      rintro e w5 ⟨rfl, hb⟩
      rw [E1.out]
      have HK5 := Lib.hid (HK4.out.then hb hB)
      obtain ⟨s0, s1, s2, s3, s4, s5⟩ := HK5.out.sg.facts
      have hl5 := HK5.out.sg.lt
      clear hb
      skip
      go_wp2
      rw [rounds_succ]
      go_wp2_with fail
      refine (is_any HK5.out.tk.rd 4 ⟨#[62]⟩).mono ?_
      rintro e w6 ⟨rfl, hb⟩
      rw [E2.out]
      have HK6 := Lib.hid (HK5.out.then hb hB)
      obtain ⟨s0, s1, s2, s3, s4, s5⟩ := HK6.out.sg.facts
      have hl6 := HK6.out.sg.lt
      clear hb
      skip
      go_wp2
      rw [rounds_succ]
      go_wp2_with fail
      refine (is_any HK6.out.tk.rd 4 ⟨#[62, 61]⟩).mono ?_
      rintro e w7 ⟨rfl, hb⟩
      rw [E3.out]
      have HK7 := Lib.hid (HK6.out.then hb hB)
      obtain ⟨s0, s1, s2, s3, s4, s5⟩ := HK7.out.sg.facts
      have hl7 := HK7.out.sg.lt
      clear hb
      skip
      go_wp2
      rw [rounds_succ]
      go_wp2_with fail
      refine (is_any HK7.out.tk.rd 4 ⟨#[61]⟩).mono ?_
      rintro e w8 ⟨rfl, hb⟩
      rw [E4.out]
      have HK8 := Lib.hid (HK7.out.then hb hB)
      obtain ⟨s0, s1, s2, s3, s4, s5⟩ := HK8.out.sg.facts
      have hl8 := HK8.out.sg.lt
      clear hb
      skip
      go_wp2
      rw [rounds_succ]
      go_wp2_with fail
      refine (is_any HK8.out.tk.rd 4 ⟨#[33, 61]⟩).mono ?_
      rintro e w9 ⟨rfl, hb⟩
      rw [E5.out]
      have HK9 := Lib.hid (HK8.out.then hb hB)
      obtain ⟨s0, s1, s2, s3, s4, s5⟩ := HK9.out.sg.facts
      have hl9 := HK9.out.sg.lt
      clear hb
      skip
      go_wp2
      obtain ⟨_, c1, _, _, _, _, _⟩ := HK9.out.tk.rd.facts
      obtain ⟨f1, _, _, _, _⟩ := HK9.out.tk.rd.free
      have hbl9 := HK9.out.tk.rd.lt
      have HM := Lib.hid (HK9.out.tk.moved (i + 1 + 1))
      have HPM := Lib.hid (HK9.out.ps.setOther (g := b) (j := 1) (by omega) (.int .i64 (i + 1 + 1)))
      have HWM := Lib.hid (HK9.out.wd.setOther (g := b) (j := 1) (by omega) (.int .i64 (i + 1 + 1)))
      have hk1 := HK9.out.ps.lt
      have hk2 := HK9.out.wd.lt
      clear s0 s1 s2 s3 s4 s5
      rw [rounds_succ]
      go_wp2_with fail
    rotate_left 6
    · have HQ : Hid (compP T i = .bad 4 (tkAt T (i + 1)).line (tkAt T (i + 1)).col) := by unfold Hid; rw [HP.out, HCN.out, if_pos rfl]; rfl
      refine (cfail_any HK9.out.tk.rd (Nat.le_trans hB HK9.out.tk.low.size) 4 rfl).mono ?_
      rintro e wf ⟨rfl, hcf⟩
      have HF := Lib.hid (HK9.out.tk.trans hcf)
      clear hcf
      go_wp2
      go_ret
      exact CRes.bad HQ.out rfl HF.out
    all_goals
      obtain ⟨y, hy⟩ : ∃ y, tkAt T (i + 1 + 1) = y := ⟨_, rfl⟩
      have HY := Lib.hid hy
      have HPX : Hid (compP T i = if isWord y then .ok [⟨compN T (i + 1), wordName x, wordNum x, wordName y, wordNum y, ⟨#[]⟩, ⟨#[]⟩, x.line, x.col⟩] (i + 3) else .bad 4 y.line y.col) := by
        unfold Hid; rw [HP.out, HCN.out, if_neg (by decide)]; unfold badP; rw [show i + 2 = i + 1 + 1 by omega, hy]
      clear hy
      by_cases hw2 : isWord y = true
      · have HW2 := Lib.hid (show isWord (tkAt T (i + 1 + 1)) = true by rw [HY.out]; exact hw2)
        have HQ := Lib.hid HPX.out
        unfold Hid at HQ
        rw [if_pos hw2, HCN.out] at HQ
        have HQ := Lib.hid HQ
        clear hw2 HPX
        refine (word_ok HM.out.rd (Nat.le_trans hB HM.out.low.size) (by omega) (by omega) HW2.out).mono ?_
        rintro e wa ⟨rfl, hca⟩
        rw [HY.out]
        have hpa := HPM.out.kept hca.kept (by omega)
        have hwa := HWM.out.kept hca.kept (by omega)
        obtain ⟨p0, p1⟩ := hpa.facts
        obtain ⟨p2, p3⟩ := hwa.facts
        have hpl := hpa.lt
        have hwl := hwa.lt
        have HT := Lib.hid ((HM.out.trans hca).alloc hB (.cells #[.string (wordName y), .int .i64 (wordNum y)] 85))
        clear hca hpa hwa
        go_wp2_with fail
        refine (put_any HT.out.rd (Nat.le_trans hB HT.out.low.size) hO _ _ _ _ _ _ _ _ _ _ _).mono ?_
        rintro e wb ⟨rfl, ov', hp⟩
        have HF := Lib.hid (HT.out.trans hp)
        clear hp
        go_wp2
        go_ret
        exact CRes.ok HQ.out rfl (by have := HF.out; rwa [show i + 1 + 1 + 1 = i + 3 by omega] at this)
      · have HW2 := Lib.hid (show isWord (tkAt T (i + 1 + 1)) = false by rw [HY.out]; simpa using hw2)
        have HQ := Lib.hid HPX.out
        unfold Hid at HQ
        rw [if_neg hw2] at HQ
        have HQ := Lib.hid HQ
        clear hw2 HPX
        refine (word_bad HM.out.rd (Nat.le_trans hB HM.out.low.size) HW2.out).mono ?_
        rintro e wa ⟨rfl, hca⟩
        rw [HY.out] at hca
        have HF := Lib.hid ((HM.out.trans hca).alloc hB (.cells #[.string ⟨#[]⟩, .int .i64 0] 85))
        clear hca
        go_wp2
        go_ret
        exact CRes.bad HQ.out rfl HF.out
  · have HW := Lib.hid (show isWord (tkAt T i) = false by rw [HX.out]; simpa using hw)
    have HP : Hid (compP T i = badP T i 4) := by unfold Hid compP; rw [HX.out, if_neg hw]
    clear hw
    go_enter Tryz.func136, Tryz.ntmps136
    go_wp2_with fail
    refine HN.out.mono ?_
    rintro e w1 ⟨rfl, hb1⟩
    rw [HX.out]
    unfold tokV
    have HC1 := Lib.hid (((CTook.of_rd HR.out).then hb1 hB).alloc hB (.cells #[.int .i64 x.line, .int .i64 x.col] 26))
    clear hb1
    go_wp2_with fail
    refine (word_bad HC1.out.rd (Nat.le_trans hB HC1.out.low.size) HW.out).mono ?_
    rintro e w2 ⟨rfl, hc2⟩
    have HF := Lib.hid ((HC1.out.trans hc2).alloc hB (.cells #[.string ⟨#[]⟩, .int .i64 0] 85))
    clear hc2
    go_wp2
    go_ret
    exact CRes.bad HP.out rfl HF.out

end Go.Proofs.YthlofmnmacpogaaGreatDoor
