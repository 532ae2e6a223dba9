/- Contracts of the formulas' reader: need, name. Contract of the formulas' reader: put. -/
import Derived.Test.YtignjhbajjephaaGreatDoorCr03

namespace Go.Proofs.YtignjhbajjephaaGreatDoor
open Go.RowKit

/-- what need leaves -/
def Needed (w : World) (B b : Nat) (lv : Value) (T : List Tk) (i : Int) (prop : Bool) (ov : Value) (O : List It) (ok : Bool) (e : Ending) (w' : World) : Prop :=
  e = .returned (.bool ok) ∧ (ok = true → ∃ l c, CTook w w' B b lv T (i + 1) prop ov O 0 l c) ∧ (ok = false → CTook w w' B b lv T i prop ov O 4 (tkAt T i).line (tkAt T i).col)

set_option maxHeartbeats 2000000 in
theorem need_any {w : World} {B b : Nat} {lv : Value} {T : List Tk} {i : Int} {prop : Bool} {ov : Value} {O : List It} {line col : Int} (h : Cr w B b lv T i prop ov O 0 line col) (hB : B ≤ w.heap.size) (kind : Int) (s : ByteArray) (hlo : -9223372036854775808 ≤ i) (hhi : i ≤ 2000000) :
    Calls Tryz.prog 63 #[.pointer (some ⟨b, 0, none⟩), .int .i64 kind, .string s] w (Needed w B b lv T i prop ov O (isTk T i kind s)) := by
  have HR := Lib.hid h
  obtain ⟨ok, hok⟩ : ∃ ok, isTk T i kind s = ok := ⟨_, rfl⟩
  have HK := Lib.hid hok
  rw [hok]
  clear h hok
  go_enter Tryz.func63, Tryz.ntmps63
  go_wp2_with fail
  refine (ctake_any HR.out hB kind s hlo hhi).mono ?_
  rw [HK.out]
  rintro e w1 ⟨rfl, hc⟩
  have HC := Lib.hid hc
  clear hc
  cases ok
  · have HC0 := Lib.hid (show CTook w w1 B b lv T i prop ov O 0 line col from HC.out)
    go_wp2_with fail
    refine (cfail_any HC0.out.rd (Nat.le_trans hB HC0.out.low.size) 4 rfl).mono ?_
    rintro e w2 ⟨rfl, hc2⟩
    have HF := Lib.hid (show CTook w w2 B b lv T i prop ov O 4 (tkAt T i).line (tkAt T i).col from ⟨hc2.rd, HC0.out.low.trans hc2.low, HC0.out.kept.trans hc2.kept⟩)
    clear hc2
    go_wp2
    go_ret
    exact ⟨rfl, fun e => by simp at e, fun _ => HF.out⟩
  · have HC1 := Lib.hid (show CTook w w1 B b lv T (i + 1) prop ov O 0 line col from HC.out)
    go_wp2
    go_ret
    exact ⟨rfl, fun _ => ⟨line, col, HC1.out⟩, fun e => by simp at e⟩

/-- a token in a block of its own -/
def TkB (w : World) (b : Nat) (x : Tk) : Prop := w.heap[b]? = some (.cells #[.int .i64 x.kind, .string x.text, .int .i64 x.num, .int .i64 x.line, .int .i64 x.col] 43 (0, 0))
theorem TkB.facts {w : World} {b : Nat} {x : Tk} (h : TkB w b x) :
    w.cell? ⟨b, 0, none⟩ = some (.int .i64 x.kind) ∧ w.cell? ⟨b, 1, none⟩ = some (.string x.text) ∧ w.cell? ⟨b, 2, none⟩ = some (.int .i64 x.num) ∧ w.cell? ⟨b, 3, none⟩ = some (.int .i64 x.line) ∧ w.cell? ⟨b, 4, none⟩ = some (.int .i64 x.col) := by
  unfold TkB at h
  refine ⟨?_, ?_, ?_, ?_, ?_⟩ <;> simp [World.cell?, h]
theorem TkB.free {w : World} {b : Nat} {x : Tk} (h : TkB w b x) :
    w.frozen? ⟨b, 0, none⟩ = false ∧ w.frozen? ⟨b, 1, none⟩ = false ∧ w.frozen? ⟨b, 2, none⟩ = false ∧ w.frozen? ⟨b, 3, none⟩ = false ∧ w.frozen? ⟨b, 4, none⟩ = false := by
  unfold TkB at h
  refine ⟨?_, ?_, ?_, ?_, ?_⟩ <;> simp [World.frozen?, h]
theorem TkB.stored {w : World} {b : Nat} {x : Tk} (h : TkB w b x) (y : Tk) :
    TkB (((((w.setCell ⟨b, 0, none⟩ (.int .i64 y.kind)).setCell ⟨b, 1, none⟩ (.string y.text)).setCell ⟨b, 2, none⟩ (.int .i64 y.num)).setCell ⟨b, 3, none⟩ (.int .i64 y.line)).setCell ⟨b, 4, none⟩ (.int .i64 y.col)) b y := by
  have h1 := heap_setCell_same w b 0 _ _ (.int .i64 y.kind) h
  have h2 := heap_setCell_same _ b 1 _ _ (.string y.text) h1
  have h3 := heap_setCell_same _ b 2 _ _ (.int .i64 y.num) h2
  have h4 := heap_setCell_same _ b 3 _ _ (.int .i64 y.line) h3
  exact heap_setCell_same _ b 4 _ _ (.int .i64 y.col) h4
theorem TkB.lt {w : World} {b : Nat} {x : Tk} (h : TkB w b x) : b < w.heap.size := (Array.getElem?_eq_some_iff.1 h).1
theorem TkB.below {w w' : World} {b B : Nat} {x : Tk} (h : TkB w b x) (hb : Below B w w') (hB : b < B) : TkB w' b x := (hb.block b hB).trans h
theorem TkB.alloc {w : World} {b : Nat} {x : Tk} (h : TkB w b x) (o : Obj) : TkB (w.alloc o) b x := (Below.heap_alloc _ _ _ h.lt).trans h
theorem TkB.drew {w : World} {b : Nat} {x : Tk} (h : TkB w b x) : TkB w.drew b x := h
theorem TkB.setOther {w : World} {b g j : Nat} {x : Tk} (h : TkB w b x) (hne : g ≠ b) (u : Value) : TkB (w.setCell ⟨g, j, none⟩ u) b x := (Below.heap_setCell _ _ _ _ (by show b ≠ g; omega)).trans h
theorem TkB.kept {w w' : World} {b k : Nat} {x : Tk} (h : TkB w k x) (ht : Lib.OthersKept 36 (some b) w w') (hkb : k ≠ b) : TkB w' k x :=
  ht k _ h (fun e => hkb (Option.some.inj e)) (fun c fz e => by simp at e)
/-- a store into a token of the step's own -/
theorem CTook.storedTok {w w1 : World} {B b : Nat} {lv : Value} {T : List Tk} {i : Int} {prop : Bool} {ov : Value} {O : List It} {er line col : Int} (h : CTook w w1 B b lv T i prop ov O er line col) {k : Nat} {x : Tk} (hx : TkB w1 k x) (hk : w.heap.size ≤ k) (hb : b < w.heap.size) (hB : B ≤ w.heap.size) (y : Tk) :
    CTook w (((((w1.setCell ⟨k, 0, none⟩ (.int .i64 y.kind)).setCell ⟨k, 1, none⟩ (.string y.text)).setCell ⟨k, 2, none⟩ (.int .i64 y.num)).setCell ⟨k, 3, none⟩ (.int .i64 y.line)).setCell ⟨k, 4, none⟩ (.int .i64 y.col)) B b lv T i prop ov O er line col := by
  have one : ∀ (W : World) (cs : Array Value) (j : Nat) (u : Value), W.heap[k]? = some (.cells cs 43 (0, 0)) → CTook w W B b lv T i prop ov O er line col → CTook w (W.setCell ⟨k, j, none⟩ u) B b lv T i prop ov O er line col := by
    intro W cs j u hW h
    have hbb : Below B W (W.setCell ⟨k, j, none⟩ u) := (Below.refl B W).setCell (p := ⟨k, j, none⟩) (by show B ≤ k; omega) _
    refine ⟨⟨?_, h.rd.low, h.rd.tk.below hbb, row_store h.rd.out hW (by decide) j u⟩, h.low.trans hbb, ?_⟩
    · rw [Below.heap_setCell _ _ _ _ (by show b ≠ k; omega)]; exact h.rd.blk
    · intro q o hq hqb hqo
      rw [Below.heap_setCell _ _ _ _ (by show q ≠ k; have := (Array.getElem?_eq_some_iff.1 hq).1; omega)]
      exact h.kept q o hq hqb hqo
  have h1 := heap_setCell_same w1 k 0 _ _ (.int .i64 y.kind) hx
  have h2 := heap_setCell_same _ k 1 _ _ (.string y.text) h1
  have h3 := heap_setCell_same _ k 2 _ _ (.int .i64 y.num) h2
  have h4 := heap_setCell_same _ k 3 _ _ (.int .i64 y.line) h3
  exact one _ _ 4 _ h4 (one _ _ 3 _ h3 (one _ _ 2 _ h2 (one _ _ 1 _ h1 (one _ _ 0 _ hx h))))

/-- what name leaves -/
def Named (w : World) (B b : Nat) (lv : Value) (T : List Tk) (i : Int) (prop : Bool) (ov : Value) (O : List It) (e : Ending) (w' : World) : Prop :=
  e = .returned (.tuple #[tokV (tkAt T i), .bool (decide ((tkAt T i).kind = 1))]) ∧ ((tkAt T i).kind = 1 → ∃ l c, CTook w w' B b lv T (i + 1) prop ov O 0 l c) ∧ ((tkAt T i).kind ≠ 1 → CTook w w' B b lv T i prop ov O 4 (tkAt T i).line (tkAt T i).col)

set_option maxHeartbeats 800000 in
theorem name_any {w : World} {B b : Nat} {lv : Value} {T : List Tk} {i : Int} {prop : Bool} {ov : Value} {O : List It} {line col : Int} (h : Cr w B b lv T i prop ov O 0 line col) (hB : B ≤ w.heap.size) (hlo : -9223372036854775808 ≤ i) (hhi : i ≤ 2000000) :
    Calls Tryz.prog 101 #[.pointer (some ⟨b, 0, none⟩)] w (Named w B b lv T i prop ov O) := by
  have HR := Lib.hid h
  have hbl := h.lt
  obtain ⟨x, hx⟩ : ∃ x, tkAt T i = x := ⟨_, rfl⟩
  have HX := Lib.hid hx
  clear h hx
  go_enter Tryz.func101, Tryz.ntmps101
  go_wp2_with fail
  refine (now_any (HR.out.keep ((Below.refl _ _).alloc (Nat.le_refl _) _) hB)).mono ?_
  rintro e w1 ⟨rfl, hb1⟩
  rw [HX.out]
  unfold tokV
  have HB1 := Lib.hid (((Below.refl _ w).alloc (Nat.le_refl _) (.cells #[.int .i64 0, .string ⟨#[]⟩, .int .i64 0, .int .i64 0, .int .i64 0] 43)).trans (hb1.mono (by simp)))
  have HC1 := Lib.hid ((CTook.of_rd HR.out).then HB1.out hB)
  have hr := (show TkB (w.alloc (.cells #[.int .i64 0, .string ⟨#[]⟩, .int .i64 0, .int .i64 0, .int .i64 0] 43)) w.heap.size ⟨0, ⟨#[]⟩, 0, 0, 0⟩ from heap_alloc_new w _).below hb1 (by simp)
  have hsz := HB1.out.size
  have hrl := hr.lt
  have hbl1 := HC1.out.rd.lt
  have HCT := Lib.hid (HC1.out.then ((Below.refl _ _).alloc (Nat.le_refl _) (.cells #[.int .i64 x.kind, .string x.text, .int .i64 x.num, .int .i64 x.line, .int .i64 x.col] 43)) hB)
  have HR0 := Lib.hid hr
  have HR1 := Lib.hid (hr.alloc (.cells #[.int .i64 x.kind, .string x.text, .int .i64 x.num, .int .i64 x.line, .int .i64 x.col] 43))
  have HT1 := Lib.hid (show TkB (w1.alloc (.cells #[.int .i64 x.kind, .string x.text, .int .i64 x.num, .int .i64 x.line, .int .i64 x.col] 43)) w1.heap.size x from heap_alloc_new w1 _)
  clear hb1 hr
  by_cases hk : x.kind = 1
  · have hkb : (x.kind == 1) = true := by rw [beq_iff_eq]; exact hk
    have hk1 := Lib.hid hk
    clear hk
    obtain ⟨_, c1, _, _, _, _, _⟩ := HC1.out.rd.facts
    obtain ⟨f1, _, _, _, _⟩ := HC1.out.rd.free
    have hR2 := HR0.out.setOther (g := b) (j := 1) (by omega) (.int .i64 (i + 1))
    have HM := Lib.hid (((HC1.out.moved (i + 1)).storedTok hR2 (Nat.le_refl _) hbl hB x).then ((Below.refl _ _).alloc (Nat.le_refl _) (.cells #[.int .i64 x.kind, .string x.text, .int .i64 x.num, .int .i64 x.line, .int .i64 x.col] 43)) hB)
    have HE := Lib.hid ((hR2.stored x).alloc (.cells #[.int .i64 x.kind, .string x.text, .int .i64 x.num, .int .i64 x.line, .int .i64 x.col] 43)).facts
    clear hR2
    obtain ⟨r0, r1, r2, r3, r4⟩ := HR0.out.free
    obtain ⟨s0, s1, s2, s3, s4⟩ := HR0.out.facts
    go_wp2
    obtain ⟨e0, e1, e2, e3, e4⟩ := HE.out
    exact bodyPost_ret (v := .tuple #[tokV x, .bool true]) (by simp [results, Tryz.results101, go_sem, tokV, e0, e1, e2, e3, e4]) rfl ⟨by rw [HX.out, decide_eq_true hk1.out], fun _ => ⟨line, col, HM.out⟩, fun hh => absurd (by rw [HX.out]; exact hk1.out) hh⟩
  · have hkb : (x.kind == 1) = false := beq_eq_false_iff_ne.2 hk
    have hk1 := Lib.hid hk
    clear hk
    have hbz := Nat.le_trans hB HCT.out.low.size
    obtain ⟨t0, t1, t2, t3, t4⟩ := HT1.out.facts
    have HCall : Calls Tryz.prog 62 #[.pointer (some ⟨b, 0, none⟩), .int .i64 4] (w1.alloc (.cells #[.int .i64 x.kind, .string x.text, .int .i64 x.num, .int .i64 x.line, .int .i64 x.col] 43)).drew (fun e w2 => e = .returned (.bool false) ∧ TkB w2 w1.heap.size x ∧ TkB w2 w.heap.size ⟨0, ⟨#[]⟩, 0, 0, 0⟩ ∧ CTook w w2 B b lv T i prop ov O 4 (tkAt T i).line (tkAt T i).col) := by
      refine (cfail_any HCT.out.rd.drew hbz 4 rfl).mono ?_
      rintro e w2 ⟨rfl, hc2⟩
      exact ⟨rfl, HT1.out.drew.kept hc2.kept (by omega), HR1.out.drew.kept hc2.kept (by omega), ⟨hc2.rd, (HCT.out.low.drew).trans hc2.low, HCT.out.kept.trans hc2.kept⟩⟩
    have HCall := Lib.hid HCall
    go_wp2_with fail
    go_region_with (go_at_call 62; refine HCall.out.mono ?_; rintro e w2 ⟨rfl, hx2, hr2, hf2⟩; obtain ⟨s0, s1, s2, s3, s4⟩ := hr2.facts; obtain ⟨r0, r1, r2, r3, r4⟩ := hr2.free; obtain ⟨u0, u1, u2, u3, u4⟩ := hx2.facts; have HM := Lib.hid (hf2.storedTok hr2 (Nat.le_refl _) hbl hB x); have HE := Lib.hid (hr2.stored x).facts; clear hx2 hr2 hf2)
    all_goals go_wp2
    all_goals (obtain ⟨e0, e1, e2, e3, e4⟩ := HE.out)
    all_goals exact bodyPost_ret (v := .tuple #[tokV x, .bool false]) (by simp [results, Tryz.results101, go_sem, tokV, e0, e1, e2, e3, e4]) rfl ⟨by rw [HX.out, decide_eq_false hk1.out], fun hh => absurd (by rw [HX.out] at hh; exact hh) hk1.out, fun _ => HM.out⟩

end Go.Proofs.YtignjhbajjephaaGreatDoor

namespace Go.Proofs.YtignjhbajjephaaGreatDoor
open Go.RowKit

theorem info_item : (Tryz.prog.info? 36).map (fun i => (i.zero, i.size, i.bytes)) = some (some (.agg #[.int .i64 0, .string ⟨#[]⟩, .int .i64 0, .string ⟨#[]⟩, .int .i64 0, .string ⟨#[]⟩, .string ⟨#[]⟩, .int .i64 0, .int .i64 0]), 9, 104) := by kernel_rfl

/-- an item in a block of its own -/
def ItB (w : World) (b : Nat) (x : It) : Prop := w.heap[b]? = some (.cells #[.int .i64 x.op, .string x.ln, .int .i64 x.lnum, .string x.rn, .int .i64 x.rnum, .string x.name, .string x.user, .int .i64 x.line, .int .i64 x.col] 36 (0, 0))
def itV (x : It) : Value := .agg #[.int .i64 x.op, .string x.ln, .int .i64 x.lnum, .string x.rn, .int .i64 x.rnum, .string x.name, .string x.user, .int .i64 x.line, .int .i64 x.col]
theorem ItB.facts {w : World} {b : Nat} {x : It} (h : ItB w b x) :
    w.cell? ⟨b, 0, none⟩ = some (.int .i64 x.op) ∧ w.cell? ⟨b, 1, none⟩ = some (.string x.ln) ∧ w.cell? ⟨b, 2, none⟩ = some (.int .i64 x.lnum) ∧ w.cell? ⟨b, 3, none⟩ = some (.string x.rn) ∧ w.cell? ⟨b, 4, none⟩ = some (.int .i64 x.rnum) ∧ w.cell? ⟨b, 5, none⟩ = some (.string x.name) ∧
    w.cell? ⟨b, 6, none⟩ = some (.string x.user) ∧ w.cell? ⟨b, 7, none⟩ = some (.int .i64 x.line) ∧ w.cell? ⟨b, 8, none⟩ = some (.int .i64 x.col) := by
  unfold ItB at h
  refine ⟨?_, ?_, ?_, ?_, ?_, ?_, ?_, ?_, ?_⟩ <;> simp [World.cell?, h]
theorem ItB.lt {w : World} {b : Nat} {x : It} (h : ItB w b x) : b < w.heap.size := (Array.getElem?_eq_some_iff.1 h).1
theorem ItB.alloc {w : World} {b : Nat} {x : It} (h : ItB w b x) (o : Obj) : ItB (w.alloc o) b x := (Below.heap_alloc _ _ _ h.lt).trans h
theorem ItB.drew {w : World} {b : Nat} {x : It} (h : ItB w b x) : ItB w.drew b x := h
theorem ItB.grown {w w' : World} {b : Nat} {x : It} {row : Option Nat} (h : ItB w b x) (hg : w.grownBy w' row) (hne : row ≠ some b) : ItB w' b x := (hg.block b h.lt (Ne.symm hne)).trans h
theorem ItB.setOther {w : World} {b g j : Nat} {x : It} (h : ItB w b x) (hne : g ≠ b) (u : Value) : ItB (w.setCell ⟨g, j, none⟩ u) b x := (Below.heap_setCell _ _ _ _ (by show b ≠ g; omega)).trans h

theorem heap_at_size (w : World) (o : Obj) (n : Nat) (hn : w.heap.size = n) : (w.alloc o).heap[n]? = some o := by subst hn; exact heap_alloc_new w o

/-- the load of the reader's items, under a name of its own: it isn't held, for that cell is written at the region's end -/
def ldPut : Op := Op.load 23 (Operand.tmp 12)
theorem ldPut_is : Op.load 23 (Operand.tmp 12) = ldPut := rfl
attribute [local go_sem] ldPut

theorem Cr.put {w W w3 : World} {B b g3 cap3 : Nat} {lv : Value} {T : List Tk} {i : Int} {prop : Bool} {ov : Value} {O : List It} {er line col : Int} (y : It) (h : Cr w B b lv T i prop ov O er line col) (hW : Below w.heap.size w W) (hB : B ≤ w.heap.size)
    (hg : W.grownBy w3 ov.ownBlock) (hat : ov.ownBlock = some g3 ∨ w.heap.size ≤ g3)
    (hown3 : w3.ownsRow B 36 9 (.slice (some ⟨g3, 0, none⟩) (O.length + 1) cap3) (O.length + 1) (itFlat O ++ itCells y)) :
    CTook w (w3.setCell ⟨b, 3, none⟩ (.slice (some ⟨g3, 0, none⟩) (O.length + 1) cap3)) B b lv T i prop (.slice (some ⟨g3, 0, none⟩) (O.length + 1) cap3) (O ++ [y]) er line col := by
  have hbl := h.lt
  have hne : ov.ownBlock ≠ some b := row_apart h.out h.blk (by decide)
  have hrow : ∀ k, ov.ownBlock = some k → B ≤ k := fun k e => (h.out.lt k e).1
  have hold : ∀ k, k < w.heap.size → ov.ownBlock ≠ some k → w3.heap[k]? = w.heap[k]? := fun k hk hne' => (hg.block k (Nat.lt_of_lt_of_le hk hW.size) (Ne.symm hne')).trans (hW.block k hk)
  have hb3 : w3.heap[b]? = _ := (hold b hbl hne).trans h.blk
  have low3 : Below B w w3 := (hW.mono hB).grown hg (Nat.le_trans hB hW.size) hrow
  have h4 := heap_setCell_same w3 b 3 _ _ (.slice (some ⟨g3, 0, none⟩) (O.length + 1) cap3) hb3
  have low4 := low3.setCell (p := ⟨b, 3, none⟩) h.low (.slice (some ⟨g3, 0, none⟩) (O.length + 1) cap3)
  refine ⟨⟨by simpa using h4, h.low, h.tk.below low4, ?_⟩, low4, ?_⟩
  · rw [itFlat_snoc, List.length_append]
    exact row_store hown3 hb3 (by decide) _ _
  · intro k o hk hkb hko
    have hk1 := (Array.getElem?_eq_some_iff.1 hk).1
    have hkb' : k ≠ b := fun e => hkb (by rw [e])
    have hkr : ov.ownBlock ≠ some k := by
      intro e
      rcases h.out.2 with ⟨rfl, _⟩ | ⟨g, cap, cur, rfl, _, hgg, _⟩
      · simp [Value.ownBlock] at e
      · simp [Value.ownBlock] at e
        subst e
        rw [hk] at hgg
        exact hko _ _ (Option.some.inj hgg)
    rw [Below.heap_setCell _ _ _ _ (by show k ≠ b; exact hkb'), hold k hk1 hkr]
    exact hk

/-- what put leaves -/
def Put (w : World) (B b : Nat) (lv : Value) (T : List Tk) (i : Int) (prop : Bool) (O : List It) (er line col : Int) (e : Ending) (w' : World) : Prop :=
  e = .returned (.bool true) ∧ ∃ ov, CTook w w' B b lv T i prop ov O er line col

set_option maxHeartbeats 2000000 in
theorem put_any {w : World} {B b : Nat} {lv : Value} {T : List Tk} {i : Int} {prop : Bool} {ov : Value} {O : List It} {er line col : Int} (h : Cr w B b lv T i prop ov O er line col) (hB : B ≤ w.heap.size) (hO : O.length ≤ 1000000)
    (op : Int) (ln : ByteArray) (lnum : Int) (rn : ByteArray) (rnum : Int) (name user : ByteArray) (l0 c0 l c : Int) :
    Calls Tryz.prog 37 #[.pointer (some ⟨b, 0, none⟩), .agg #[.int .i64 op, .string ln, .int .i64 lnum, .string rn, .int .i64 rnum, .string name, .string user, .int .i64 l0, .int .i64 c0], .agg #[.int .i64 l, .int .i64 c]] w
      (Put w B b lv T i prop (O ++ [⟨op, ln, lnum, rn, rnum, name, user, l, c⟩]) er line col) := by
  have hbl := h.lt
  obtain ⟨_, _, _, c3, _, _, _⟩ := h.facts
  obtain ⟨_, f3, _, _, _⟩ := h.free
  have HNE := Lib.hid (row_apart h.out h.blk (by decide))
  have HNW : Hid (ov.ownBlock ≠ some w.heap.size) := fun e => by have := (h.out.lt _ e).2; omega
  have HIB := Lib.hid (show ItB (w.alloc (.cells #[.int .i64 op, .string ln, .int .i64 lnum, .string rn, .int .i64 rnum, .string name, .string user, .int .i64 l, .int .i64 c] 36)) w.heap.size ⟨op, ln, lnum, rn, rnum, name, user, l, c⟩ from heap_alloc_new w _)
  have HBW := Lib.hid (((Below.refl w.heap.size w).alloc (Nat.le_refl _) (.cells #[.int .i64 op, .string ln, .int .i64 lnum, .string rn, .int .i64 rnum, .string name, .string user, .int .i64 l, .int .i64 c] 36)).alloc (by simp) (.cells #[.int .i64 l, .int .i64 c] 26))
  have HOUT := Lib.hid h.out
  have HC3 := Lib.hid (And.intro c3 f3)
  obtain ⟨i0, hi0, hz0, hz1, hz2⟩ := info_parts info_item
  have HIP := Lib.hid (And.intro hi0 (And.intro hz0 (And.intro hz1 hz2)))
  have HR := Lib.hid h
  have hMb : (O.length + 1) * 104 ≤ 140737488355328 := by omega
  have hM63 : O.length + 1 ≤ maxLen := by unfold maxLen; omega
  have hb1 : b < w.heap.size + 1 := by omega
  have hb2 : b < w.heap.size + 2 := by omega
  have hn0 : b ≠ w.heap.size := by omega
  have hn1 : b ≠ w.heap.size + 1 := by omega
  have hn2 : b ≠ w.heap.size + 2 := by omega
  clear hi0 hz0 hz1 hz2 h
  go_enter Tryz.func37, Tryz.ntmps37
  go_wp2
  rw [ldPut_is]
  go_region_held3 (fun w' => w'.cell? ⟨w.heap.size, 0, none⟩ = some (.int .i64 op) ∧ w'.cell? ⟨w.heap.size, 1, none⟩ = some (.string ln) ∧ w'.cell? ⟨w.heap.size, 2, none⟩ = some (.int .i64 lnum) ∧ w'.cell? ⟨w.heap.size, 3, none⟩ = some (.string rn) ∧ w'.cell? ⟨w.heap.size, 4, none⟩ = some (.int .i64 rnum) ∧ w'.cell? ⟨w.heap.size, 5, none⟩ = some (.string name) ∧ w'.cell? ⟨w.heap.size, 6, none⟩ = some (.string user) ∧ w'.cell? ⟨w.heap.size, 7, none⟩ = some (.int .i64 l) ∧ w'.cell? ⟨w.heap.size, 8, none⟩ = some (.int .i64 c))
    (first | go_keep | (refine ⟨?_, ?_, ?_, ?_, ?_, ?_, ?_, ?_, ?_⟩ <;> (first | assumption | go_keep | (rw [World.cell?_setCell_other _ _ _ _ (by first | (simp; done) | (simp; omega))]; assumption))))
    ((refine step_append_lies _ (by rfl) _ _ _ (by rfl) B 36 i0 _ 9 104 Tryz.underlying23 HIP.out.1 HIP.out.2.1 HIP.out.2.2.1 HIP.out.2.2.2 rfl (by omega) ov O.length (itFlat O) (by rfl) (World.ownsRow.alloc (World.ownsRow.drew (World.ownsRow.alloc (World.ownsRow.alloc HOUT.out _) _)) _) ⟨w.heap.size + 2, 0, none⟩ 1 1 [.int .i64 op, .string ln, .int .i64 lnum, .string rn, .int .i64 rnum, .string name, .string user, .int .i64 l, .int .i64 c] (by rfl) (by rfl) (World.news_of_block (cs := #[.int .i64 op, .string ln, .int .i64 lnum, .string rn, .int .i64 rnum, .string name, .string user, .int .i64 l, .int .i64 c]) (t := 36) (fr := (0, 0)) (heap_at_size _ _ _ (by simp))) (by simp [Value.oneCell']) (by omega) hM63 hMb (by simp; omega) (w.heap.size + 3) (by simp) ?_
      intro g3 cap3 w3 hown3 hgrow hat hlt3
      have hcb : w3.heap[b]? = _ := (hgrow.block b (by simp; omega) (Ne.symm HNE.out)).trans ((((HBW.out.drew).alloc (by simp; omega) _).block b hbl).trans HR.out.blk)
      have p3 : w3.cell? ⟨b, 3, none⟩ = some ov := by simp [World.cell?, hcb]
      have p5 : w3.frozen? ⟨b, 3, none⟩ = false := by simp [World.frozen?, hcb]
      obtain ⟨n0, n1, n2, n3, n4, n5, n6, n7, n8⟩ := (ItB.grown (ItB.alloc (ItB.drew (ItB.alloc HIB.out _)) _) hgrow HNW.out).facts
      dsimp only at n0 n1 n2 n3 n4 n5 n6 n7 n8))
  all_goals
    have HTK := Lib.hid (Cr.put ⟨op, ln, lnum, rn, rnum, name, user, l, c⟩ HR.out (((HBW.out.drew).alloc (by simp; omega) _)) hB hgrow (by rcases hat with e | e; exact .inl e; exact .inr (by omega)) hown3)
    clear hgrow hown3 hat hcb n0 n1 n2 n3 n4 n5 n6 n7 n8
    go_wp2
    go_ret
    exact ⟨rfl, _, HTK.out⟩

end Go.Proofs.YtignjhbajjephaaGreatDoor
