/- The reader of formulas in memory; contracts of its small methods: now, is, take, fail, need, name. Contracts of the formulas' reader: need, name. -/
import Derived.Test.YthhjepgcbfmfeaaGreatDoorSb11
import Derived.Test.YthhjepgcbfmfeaaGreatDoorSb15

namespace Go.Proofs.YthhjepgcbfmfeaaGreatDoor
open Go.RowKit

def tokV (x : Tk) : Value := .agg #[.int .i64 x.kind, .string x.text, .int .i64 x.num, .int .i64 x.line, .int .i64 x.col]

/-- a slice of tokens that lies below B -/
def TkIn (w : World) (B : Nat) (v : Value) (T : List Tk) : Prop :=
  ∃ ad cap, v = .slice ad T.length cap ∧ T.length ≤ 1000000 ∧ (T = [] ∨ ∃ g off, ad = some ⟨g, off, none⟩ ∧ g < B ∧ g < w.heap.size ∧ ∀ (k : Nat) (x : Tk), T[k]? = some x → w.cell? ⟨g, off + k * 5, none⟩ = some (.int .i64 x.kind) ∧ w.cell? ⟨g, off + k * 5 + 1, none⟩ = some (.string x.text) ∧
    w.cell? ⟨g, off + k * 5 + 2, none⟩ = some (.int .i64 x.num) ∧ w.cell? ⟨g, off + k * 5 + 3, none⟩ = some (.int .i64 x.line) ∧ w.cell? ⟨g, off + k * 5 + 4, none⟩ = some (.int .i64 x.col))
theorem TkIn.below {w w' : World} {B : Nat} {v : Value} {T : List Tk} (h : TkIn w B v T) (hb : Below B w w') : TkIn w' B v T := by
  obtain ⟨ad, cap, hv, hl, h⟩ := h
  refine ⟨ad, cap, hv, hl, ?_⟩
  rcases h with h | ⟨g, off, ha, hg, hgw, hc⟩
  · exact .inl h
  · refine .inr ⟨g, off, ha, hg, ?_, fun k x hx => ?_⟩
    · have e := hb.block g hg
      have h1 : w.heap[g]? = some w.heap[g] := Array.getElem?_eq_getElem hgw
      rw [h1] at e
      exact (Array.getElem?_eq_some_iff.1 e).1
    · obtain ⟨a, b, c, d, e⟩ := hc k x hx
      exact ⟨(hb.cell (p := ⟨g, off + k * 5, none⟩) hg).trans a, (hb.cell (p := ⟨g, off + k * 5 + 1, none⟩) hg).trans b, (hb.cell (p := ⟨g, off + k * 5 + 2, none⟩) hg).trans c, (hb.cell (p := ⟨g, off + k * 5 + 3, none⟩) hg).trans d, (hb.cell (p := ⟨g, off + k * 5 + 4, none⟩) hg).trans e⟩

/-- the reader of formulas: its struct in block b; its tokens T; its place i; its items O; what is wrong -/
structure Cr (w : World) (B b : Nat) (lv : Value) (T : List Tk) (i : Int) (prop : Bool) (ov : Value) (O : List It) (er line col : Int) : Prop where
  blk : w.heap[b]? = some (.cells #[lv, .int .i64 i, .bool prop, ov, .int .i64 er, .int .i64 line, .int .i64 col] 76 (0, 0))
  low : B ≤ b
  tk : TkIn w B lv T
  out : w.ownsRow B 39 9 ov O.length (itFlat O)

theorem Cr.lt {w : World} {B b : Nat} {lv : Value} {T : List Tk} {i : Int} {prop : Bool} {ov : Value} {O : List It} {er line col : Int} (h : Cr w B b lv T i prop ov O er line col) : b < w.heap.size := (Array.getElem?_eq_some_iff.1 h.blk).1
theorem Cr.facts {w : World} {B b : Nat} {lv : Value} {T : List Tk} {i : Int} {prop : Bool} {ov : Value} {O : List It} {er line col : Int} (h : Cr w B b lv T i prop ov O er line col) :
    w.cell? ⟨b, 0, none⟩ = some lv ∧ w.cell? ⟨b, 1, none⟩ = some (.int .i64 i) ∧ w.cell? ⟨b, 2, none⟩ = some (.bool prop) ∧ w.cell? ⟨b, 3, none⟩ = some ov ∧ w.cell? ⟨b, 4, none⟩ = some (.int .i64 er) ∧ w.cell? ⟨b, 5, none⟩ = some (.int .i64 line) ∧ w.cell? ⟨b, 6, none⟩ = some (.int .i64 col) := by
  have hb := h.blk
  refine ⟨?_, ?_, ?_, ?_, ?_, ?_, ?_⟩ <;> simp [World.cell?, hb]
theorem Cr.free {w : World} {B b : Nat} {lv : Value} {T : List Tk} {i : Int} {prop : Bool} {ov : Value} {O : List It} {er line col : Int} (h : Cr w B b lv T i prop ov O er line col) :
    w.frozen? ⟨b, 1, none⟩ = false ∧ w.frozen? ⟨b, 3, none⟩ = false ∧ w.frozen? ⟨b, 4, none⟩ = false ∧ w.frozen? ⟨b, 5, none⟩ = false ∧ w.frozen? ⟨b, 6, none⟩ = false := by
  have hb := h.blk
  refine ⟨?_, ?_, ?_, ?_, ?_⟩ <;> simp [World.frozen?, hb]
theorem Cr.keep {w w' : World} {B b : Nat} {lv : Value} {T : List Tk} {i : Int} {prop : Bool} {ov : Value} {O : List It} {er line col : Int} (h : Cr w B b lv T i prop ov O er line col) (hb : Below w.heap.size w w') (hB : B ≤ w.heap.size) : Cr w' B b lv T i prop ov O er line col :=
  ⟨(hb.block b h.lt).trans h.blk, h.low, h.tk.below (hb.mono hB), owns_below h.out hb⟩
theorem Cr.moved {w : World} {B b : Nat} {lv : Value} {T : List Tk} {i : Int} {prop : Bool} {ov : Value} {O : List It} {er line col : Int} (h : Cr w B b lv T i prop ov O er line col) (j : Int) : Cr (w.setCell ⟨b, 1, none⟩ (.int .i64 j)) B b lv T j prop ov O er line col :=
  ⟨heap_setCell_same w b 1 _ _ _ h.blk, h.low, h.tk.below ((Below.refl B w).setCell (p := ⟨b, 1, none⟩) h.low _), row_store h.out h.blk (by decide) _ _⟩
theorem Cr.failed {w : World} {B b : Nat} {lv : Value} {T : List Tk} {i : Int} {prop : Bool} {ov : Value} {O : List It} {er line col : Int} (h : Cr w B b lv T i prop ov O er line col) (e l c : Int) :
    Cr (((w.setCell ⟨b, 4, none⟩ (.int .i64 e)).setCell ⟨b, 5, none⟩ (.int .i64 l)).setCell ⟨b, 6, none⟩ (.int .i64 c)) B b lv T i prop ov O e l c := by
  have h1 := heap_setCell_same w b 4 _ _ (.int .i64 e) h.blk
  have h2 := heap_setCell_same _ b 5 _ _ (.int .i64 l) h1
  have h3 := heap_setCell_same _ b 6 _ _ (.int .i64 c) h2
  refine ⟨h3, h.low, h.tk.below ((((Below.refl B w).setCell (p := ⟨b, 4, none⟩) h.low _).setCell (p := ⟨b, 5, none⟩) h.low _).setCell (p := ⟨b, 6, none⟩) h.low _), ?_⟩
  exact row_store (row_store (row_store h.out h.blk (by decide) _ _) h1 (by decide) _ _) h2 (by decide) _ _

/-- what a step of the reader leaves -/
structure CTook (w w' : World) (B b : Nat) (lv : Value) (T : List Tk) (i : Int) (prop : Bool) (ov : Value) (O : List It) (er line col : Int) : Prop where
  rd : Cr w' B b lv T i prop ov O er line col
  low : Below B w w'
  kept : Lib.OthersKept 39 (some b) w w'

theorem TkIn.at {w : World} {B : Nat} {v : Value} {T : List Tk} (h : TkIn w B v T) {k : Nat} {x : Tk} (hx : T[k]? = some x) :
    ∃ g off cap, v = .slice (some ⟨g, off, none⟩) T.length cap ∧ g < B ∧ g < w.heap.size ∧ w.cell? ⟨g, off + k * 5, none⟩ = some (.int .i64 x.kind) ∧ w.cell? ⟨g, off + k * 5 + 1, none⟩ = some (.string x.text) ∧
      w.cell? ⟨g, off + k * 5 + 2, none⟩ = some (.int .i64 x.num) ∧ w.cell? ⟨g, off + k * 5 + 3, none⟩ = some (.int .i64 x.line) ∧ w.cell? ⟨g, off + k * 5 + 4, none⟩ = some (.int .i64 x.col) := by
  obtain ⟨ad, cap, rfl, _, h⟩ := h
  rcases h with rfl | ⟨g, off, rfl, hg, hgw, hc⟩
  · simp at hx
  · exact ⟨g, off, cap, rfl, hg, hgw, hc k x hx⟩

theorem below_tok {w0 w : World} {B k : Nat} (h : Below B w0 w) (hk : B ≤ k) (a b c d e : Value) : Below B w0 (((((w.setCell ⟨k, 0, none⟩ a).setCell ⟨k, 1, none⟩ b).setCell ⟨k, 2, none⟩ c).setCell ⟨k, 3, none⟩ d).setCell ⟨k, 4, none⟩ e) :=
  ((((h.setCell (p := ⟨k, 0, none⟩) hk _).setCell (p := ⟨k, 1, none⟩) hk _).setCell (p := ⟨k, 2, none⟩) hk _).setCell (p := ⟨k, 3, none⟩) hk _).setCell (p := ⟨k, 4, none⟩) hk _
theorem cell_tok {w : World} {g k j : Nat} {v : Value} (a b c d e : Value) (hne : g ≠ k) (h : w.cell? ⟨g, j, none⟩ = some v) : (((((w.setCell ⟨k, 0, none⟩ a).setCell ⟨k, 1, none⟩ b).setCell ⟨k, 2, none⟩ c).setCell ⟨k, 3, none⟩ d).setCell ⟨k, 4, none⟩ e).cell? ⟨g, j, none⟩ = some v := by
  have e1 : (((((w.setCell ⟨k, 0, none⟩ a).setCell ⟨k, 1, none⟩ b).setCell ⟨k, 2, none⟩ c).setCell ⟨k, 3, none⟩ d).setCell ⟨k, 4, none⟩ e).heap[g]? = w.heap[g]? := by
    rw [Below.heap_setCell _ _ _ _ (by show g ≠ k; exact hne), Below.heap_setCell _ _ _ _ (by show g ≠ k; exact hne), Below.heap_setCell _ _ _ _ (by show g ≠ k; exact hne), Below.heap_setCell _ _ _ _ (by show g ≠ k; exact hne), Below.heap_setCell _ _ _ _ (by show g ≠ k; exact hne)]
  exact (World.cell?_of_block (a := ⟨g, j, none⟩) e1).trans h
theorem old_cell {w : World} {g j : Nat} {v : Value} (o : Obj) (n : Nat) (hg : g < w.heap.size) (h : w.cell? ⟨g, j, none⟩ = some v) : ((w.alloc o).drewN n).cell? ⟨g, j, none⟩ = some v :=
  ((Go.below_drewN ((Below.refl w.heap.size w).alloc (Nat.le_refl _) o) n).cell (p := ⟨g, j, none⟩) hg).trans h

theorem tkAt_some {T : List Tk} {k : Nat} {x : Tk} (h : T[k]? = some x) : tkAt T k = x := by
  unfold tkAt; rw [if_neg (by omega), Int.toNat_natCast, h]
theorem tkAt_far {T : List Tk} {k : Nat} (h : T.length ≤ k) : tkAt T k = noTk := by
  unfold tkAt; rw [if_neg (by omega), Int.toNat_natCast, List.getElem?_eq_none h]

set_option maxHeartbeats 2000000 in
theorem now_any {w : World} {B b : Nat} {lv : Value} {T : List Tk} {i : Int} {prop : Bool} {ov : Value} {O : List It} {er line col : Int} (h : Cr w B b lv T i prop ov O er line col) :
    Calls Tryz.prog 26 #[.pointer (some ⟨b, 0, none⟩)] w fun e w' => e = .returned (tokV (tkAt T i)) ∧ Below w.heap.size w w' := by
  obtain ⟨c0, c1, _, _, _, _, _⟩ := h.facts
  obtain ⟨ad, cap, hv, hl, _⟩ := h.tk
  have hbl := h.lt
  by_cases hneg : i < 0
  · have HN : Hid (tkAt T i = noTk) := by unfold Hid tkAt; rw [if_pos hneg]
    have hnd : decide (i < 0) = true := decide_eq_true hneg
    rw [hv] at c0
    clear h hv hneg
    go_enter Tryz.func26, Tryz.ntmps26
    go_wp2
    go_quiet (fail)
    go_wp2
    exact bodyPost_ret (v := .agg #[.int .i64 5, .string ⟨#[]⟩, .int .i64 0, .int .i64 0, .int .i64 0]) (by simp [results, Tryz.results26, go_sem]) rfl ⟨by rw [HN.out]; rfl, below_tok (Go.below_drewN ((Below.refl _ _).alloc (Nat.le_refl _) _) _) (Nat.le_refl _) _ _ _ _ _⟩
  · obtain ⟨k, rfl⟩ := Int.eq_ofNat_of_zero_le (Int.not_lt.1 hneg)
    have hnd : decide ((k : Int) < 0) = false := decide_eq_false (by omega)
    clear hneg
    by_cases hlt : k < T.length
    · obtain ⟨x, hx⟩ : ∃ x, T[k]? = some x := ⟨_, List.getElem?_eq_getElem hlt⟩
      have HN := Lib.hid (tkAt_some hx)
      obtain ⟨g, off, cap2, hv2, hgB, hgw, x0, x1, x2, x3, x4⟩ := h.tk.at hx
      rw [hv2] at c0
      have hkz : decide ((T.length : Int) ≤ (k : Int)) = false := decide_eq_false (by omega)
      have hk2 : (k : Int) < (T.length : Int) := by omega
      clear h hv hv2 hx
      go_enter Tryz.func26, Tryz.ntmps26
      go_wp2
      go_quiet (fail)
      go_wp2
      have f0 := cell_tok (.int .i64 x.kind) (.string x.text) (.int .i64 x.num) (.int .i64 x.line) (.int .i64 x.col) (k := w.heap.size) (Nat.ne_of_lt hbl) (old_cell (.cells #[.int .i64 0, .string ⟨#[]⟩, .int .i64 0, .int .i64 0, .int .i64 0] 54) (nq + 1) hbl c0)
      have f1 := cell_tok (.int .i64 x.kind) (.string x.text) (.int .i64 x.num) (.int .i64 x.line) (.int .i64 x.col) (k := w.heap.size) (Nat.ne_of_lt hbl) (old_cell (.cells #[.int .i64 0, .string ⟨#[]⟩, .int .i64 0, .int .i64 0, .int .i64 0] 54) (nq + 1) hbl c1)
      have f2 := cell_tok (.int .i64 x.kind) (.string x.text) (.int .i64 x.num) (.int .i64 x.line) (.int .i64 x.col) (k := w.heap.size) (Nat.ne_of_lt hgw) (old_cell (.cells #[.int .i64 0, .string ⟨#[]⟩, .int .i64 0, .int .i64 0, .int .i64 0] 54) (nq + 1) hgw x0)
      have f3 := cell_tok (.int .i64 x.kind) (.string x.text) (.int .i64 x.num) (.int .i64 x.line) (.int .i64 x.col) (k := w.heap.size) (Nat.ne_of_lt hgw) (old_cell (.cells #[.int .i64 0, .string ⟨#[]⟩, .int .i64 0, .int .i64 0, .int .i64 0] 54) (nq + 1) hgw x1)
      have f4 := cell_tok (.int .i64 x.kind) (.string x.text) (.int .i64 x.num) (.int .i64 x.line) (.int .i64 x.col) (k := w.heap.size) (Nat.ne_of_lt hgw) (old_cell (.cells #[.int .i64 0, .string ⟨#[]⟩, .int .i64 0, .int .i64 0, .int .i64 0] 54) (nq + 1) hgw x2)
      have f5 := cell_tok (.int .i64 x.kind) (.string x.text) (.int .i64 x.num) (.int .i64 x.line) (.int .i64 x.col) (k := w.heap.size) (Nat.ne_of_lt hgw) (old_cell (.cells #[.int .i64 0, .string ⟨#[]⟩, .int .i64 0, .int .i64 0, .int .i64 0] 54) (nq + 1) hgw x3)
      have f6 := cell_tok (.int .i64 x.kind) (.string x.text) (.int .i64 x.num) (.int .i64 x.line) (.int .i64 x.col) (k := w.heap.size) (Nat.ne_of_lt hgw) (old_cell (.cells #[.int .i64 0, .string ⟨#[]⟩, .int .i64 0, .int .i64 0, .int .i64 0] 54) (nq + 1) hgw x4)
      go_region_held3 (fun w' => w'.cell? ⟨b, 0, none⟩ = some (.slice (some ⟨g, off, none⟩) T.length cap2) ∧ w'.cell? ⟨b, 1, none⟩ = some (.int .i64 k) ∧ w'.cell? ⟨g, off + k * 5, none⟩ = some (.int .i64 x.kind) ∧ w'.cell? ⟨g, off + k * 5 + 1, none⟩ = some (.string x.text) ∧ w'.cell? ⟨g, off + k * 5 + 2, none⟩ = some (.int .i64 x.num) ∧ w'.cell? ⟨g, off + k * 5 + 3, none⟩ = some (.int .i64 x.line) ∧ w'.cell? ⟨g, off + k * 5 + 4, none⟩ = some (.int .i64 x.col))
        (first | go_keep | exact ⟨f0, f1, f2, f3, f4, f5, f6⟩ | (refine ⟨?_, ?_, ?_, ?_, ?_, ?_, ?_⟩ <;> assumption))
        (first | fail)
      go_wp2
      exact bodyPost_ret (v := tokV x) (by simp [results, Tryz.results26, go_sem, tokV]) rfl ⟨by rw [HN.out], below_tok (Go.below_drewN ((Below.refl _ _).alloc (Nat.le_refl _) _) _) (Nat.le_refl _) _ _ _ _ _⟩
    · have HN := Lib.hid (tkAt_far (T := T) (k := k) (by omega))
      rw [hv] at c0
      have hkz : (T.length : Int) ≤ (k : Int) := by omega
      have hkn : T.length ≤ k := by omega
      clear h hv hlt
      go_enter Tryz.func26, Tryz.ntmps26
      go_wp2
      go_quiet (fail)
      go_wp2
      exact bodyPost_ret (v := .agg #[.int .i64 5, .string ⟨#[]⟩, .int .i64 0, .int .i64 0, .int .i64 0]) (by simp [results, Tryz.results26, go_sem]) rfl ⟨by rw [HN.out]; rfl, below_tok (Go.below_drewN ((Below.refl _ _).alloc (Nat.le_refl _) _) _) (Nat.le_refl _) _ _ _ _ _⟩

set_option maxHeartbeats 2000000 in
theorem is_any {w : World} {B b : Nat} {lv : Value} {T : List Tk} {i : Int} {prop : Bool} {ov : Value} {O : List It} {er line col : Int} (h : Cr w B b lv T i prop ov O er line col) (kind : Int) (s : ByteArray) :
    Calls Tryz.prog 68 #[.pointer (some ⟨b, 0, none⟩), .int .i64 kind, .string s] w fun e w' => e = .returned (.bool (isTk T i kind s)) ∧ Below w.heap.size w w' := by
  have HR := Lib.hid h
  obtain ⟨x, hx⟩ : ∃ x, tkAt T i = x := ⟨_, rfl⟩
  have HX := Lib.hid hx
  have HI : Hid (isTk T i kind s = (decide (x.kind = kind) && decide (x.text = s))) := by unfold Hid isTk; rw [hx]
  clear h hx
  go_enter Tryz.func68, Tryz.ntmps68
  go_wp2_with fail
  refine (now_any HR.out).mono ?_
  rintro e w1 ⟨rfl, hb1⟩
  have HB1 := Lib.hid (hb1.alloc hb1.size (.cells #[.int .i64 x.kind, .string x.text, .int .i64 x.num, .int .i64 x.line, .int .i64 x.col] 54))
  clear hb1
  rw [HX.out]
  unfold tokV
  by_cases hk : x.kind = kind
  · have hkb : (x.kind == kind) = true := by rw [beq_iff_eq]; exact hk
    by_cases ht : x.text = s
    · have htb : (x.text.toList == s.toList) = true := by rw [bytes_beq]; exact decide_eq_true ht
      have HF : Hid (isTk T i kind s = true) := by unfold Hid; rw [HI.out, decide_eq_true hk, decide_eq_true ht]; rfl
      clear hk ht
      go_wp2
      go_ret
      exact ⟨ret_bool HF.out.symm, HB1.out⟩
    · have htb : (x.text.toList == s.toList) = false := by rw [bytes_beq]; exact decide_eq_false ht
      have HF : Hid (isTk T i kind s = false) := by unfold Hid; rw [HI.out, decide_eq_false ht, Bool.and_false]
      clear hk ht
      go_wp2
      go_ret
      exact ⟨ret_bool HF.out.symm, HB1.out⟩
  · have hkb : (x.kind == kind) = false := beq_eq_false_iff_ne.2 hk
    have HF : Hid (isTk T i kind s = false) := by unfold Hid; rw [HI.out, decide_eq_false hk, Bool.false_and]
    clear hk
    go_wp2
    go_ret
    exact ⟨ret_bool HF.out.symm, HB1.out⟩

theorem Cr.drew {w : World} {B b : Nat} {lv : Value} {T : List Tk} {i : Int} {prop : Bool} {ov : Value} {O : List It} {er line col : Int} (h : Cr w B b lv T i prop ov O er line col) : Cr w.drew B b lv T i prop ov O er line col := ⟨h.blk, h.low, h.tk, h.out⟩
theorem CTook.of_rd {w : World} {B b : Nat} {lv : Value} {T : List Tk} {i : Int} {prop : Bool} {ov : Value} {O : List It} {er line col : Int} (h : Cr w B b lv T i prop ov O er line col) : CTook w w B b lv T i prop ov O er line col := ⟨h, Below.refl _ _, Lib.OthersKept.refl _ _ _⟩
theorem kept_below {t : TypeId} {b : Option Nat} {w w' : World} (h : Below w.heap.size w w') : Lib.OthersKept t b w w' :=
  fun k _ hk _ _ => (h.block k (Array.getElem?_eq_some_iff.1 hk).1).trans hk
theorem CTook.then {w w1 w' : World} {B b : Nat} {lv : Value} {T : List Tk} {i : Int} {prop : Bool} {ov : Value} {O : List It} {er line col : Int} (h : CTook w w1 B b lv T i prop ov O er line col) (hb : Below w1.heap.size w1 w') (hB : B ≤ w.heap.size) : CTook w w' B b lv T i prop ov O er line col :=
  ⟨h.rd.keep hb (Nat.le_trans hB h.low.size), h.low.trans (hb.mono (Nat.le_trans hB h.low.size)), h.kept.trans (kept_below hb)⟩
theorem CTook.after {w w1 w' : World} {B b : Nat} {lv : Value} {T : List Tk} {i : Int} {prop : Bool} {ov : Value} {O : List It} {er line col : Int} (h : CTook w1 w' B b lv T i prop ov O er line col) (hb : Below w.heap.size w w1) (hB : B ≤ w.heap.size) : CTook w w' B b lv T i prop ov O er line col :=
  ⟨h.rd, (hb.mono hB).trans h.low, (kept_below hb).trans h.kept⟩
theorem CTook.moved {w w1 : World} {B b : Nat} {lv : Value} {T : List Tk} {i : Int} {prop : Bool} {ov : Value} {O : List It} {er line col : Int} (h : CTook w w1 B b lv T i prop ov O er line col) (j : Int) : CTook w (w1.setCell ⟨b, 1, none⟩ (.int .i64 j)) B b lv T j prop ov O er line col :=
  ⟨h.rd.moved j, h.low.setCell (p := ⟨b, 1, none⟩) h.rd.low _, h.kept.setCell ⟨b, 1, none⟩ rfl _⟩
theorem CTook.failed {w w1 : World} {B b : Nat} {lv : Value} {T : List Tk} {i : Int} {prop : Bool} {ov : Value} {O : List It} {er line col : Int} (h : CTook w w1 B b lv T i prop ov O er line col) (e l c : Int) :
    CTook w (((w1.setCell ⟨b, 4, none⟩ (.int .i64 e)).setCell ⟨b, 5, none⟩ (.int .i64 l)).setCell ⟨b, 6, none⟩ (.int .i64 c)) B b lv T i prop ov O e l c :=
  ⟨h.rd.failed e l c, ((h.low.setCell (p := ⟨b, 4, none⟩) h.rd.low _).setCell (p := ⟨b, 5, none⟩) h.rd.low _).setCell (p := ⟨b, 6, none⟩) h.rd.low _,
    ((h.kept.setCell ⟨b, 4, none⟩ rfl _).setCell ⟨b, 5, none⟩ rfl _).setCell ⟨b, 6, none⟩ rfl _⟩

/-- what take leaves: whether the token stood there, and the reader behind it if so -/
def Taken (w : World) (B b : Nat) (lv : Value) (T : List Tk) (i : Int) (prop : Bool) (ov : Value) (O : List It) (er line col : Int) (ok : Bool) (e : Ending) (w' : World) : Prop :=
  e = .returned (.bool ok) ∧ CTook w w' B b lv T (if ok then i + 1 else i) prop ov O er line col

set_option maxHeartbeats 2000000 in
theorem ctake_any {w : World} {B b : Nat} {lv : Value} {T : List Tk} {i : Int} {prop : Bool} {ov : Value} {O : List It} {er line col : Int} (h : Cr w B b lv T i prop ov O er line col) (hB : B ≤ w.heap.size) (kind : Int) (s : ByteArray) (hlo : -9223372036854775808 ≤ i) (hhi : i ≤ 2000000) :
    Calls Tryz.prog 46 #[.pointer (some ⟨b, 0, none⟩), .int .i64 kind, .string s] w (Taken w B b lv T i prop ov O er line col (isTk T i kind s)) := by
  have HR := Lib.hid h
  obtain ⟨ok, hok⟩ : ∃ ok, isTk T i kind s = ok := ⟨_, rfl⟩
  have HK := Lib.hid hok
  rw [hok]
  clear h hok
  go_enter Tryz.func46, Tryz.ntmps46
  go_wp2_with fail
  refine (is_any HR.out kind s).mono ?_
  rintro e w1 ⟨rfl, hb1⟩
  rw [HK.out]
  have HC := Lib.hid ((CTook.of_rd HR.out).then hb1 hB)
  clear hb1
  cases ok
  · go_wp2
    go_ret
    exact ⟨rfl, HC.out⟩
  · obtain ⟨_, c1, _, _, _, _, _⟩ := HC.out.rd.facts
    obtain ⟨f1, _, _, _, _⟩ := HC.out.rd.free
    have HM := Lib.hid (HC.out.moved (i + 1))
    go_wp2
    go_ret
    exact ⟨rfl, HM.out⟩

set_option maxHeartbeats 2000000 in
theorem cfail_any {w : World} {B b : Nat} {lv : Value} {T : List Tk} {i : Int} {prop : Bool} {ov : Value} {O : List It} {er line col : Int} (h : Cr w B b lv T i prop ov O er line col) (hB : B ≤ w.heap.size) (e : Int) (h0 : er = 0) :
    Calls Tryz.prog 62 #[.pointer (some ⟨b, 0, none⟩), .int .i64 e] w fun en w' => en = .returned (.bool false) ∧ CTook w w' B b lv T i prop ov O e (tkAt T i).line (tkAt T i).col := by
  subst h0
  have HR := Lib.hid h
  obtain ⟨x, hx⟩ : ∃ x, tkAt T i = x := ⟨_, rfl⟩
  have HX := Lib.hid hx
  obtain ⟨_, _, _, _, c4, _, _⟩ := h.facts
  rw [hx]
  clear h hx
  go_enter Tryz.func62, Tryz.ntmps62
  go_wp2_with fail
  refine (now_any HR.out).mono ?_
  rintro en w1 ⟨rfl, hb1⟩
  rw [HX.out]
  unfold tokV
  have HC := Lib.hid ((CTook.of_rd HR.out).then hb1 hB)
  clear hb1
  obtain ⟨_, _, _, _, d4, d5, d6⟩ := HC.out.rd.facts
  obtain ⟨_, _, f4, f5, f6⟩ := HC.out.rd.free
  have HM := Lib.hid (HC.out.failed e x.line x.col)
  have hfd : ∀ w : World, (Instr.field 54 (.agg #[.int .i64 x.kind, .string x.text, .int .i64 x.num, .int .i64 x.line, .int .i64 x.col]) 3).run Tryz.prog w = .ok (.agg #[.int .i64 x.line, .int .i64 x.col]) w := fun _ => by kernel_rfl
  go_wp2
  go_ret
  exact ⟨rfl, HM.out⟩

end Go.Proofs.YthhjepgcbfmfeaaGreatDoor

namespace Go.Proofs.YthhjepgcbfmfeaaGreatDoor
open Go.RowKit

/-- what need leaves -/
def Needed (w : World) (B b : Nat) (lv : Value) (T : List Tk) (i : Int) (prop : Bool) (ov : Value) (O : List It) (ok : Bool) (e : Ending) (w' : World) : Prop :=
  e = .returned (.bool ok) ∧ (ok = true → ∃ l c, CTook w w' B b lv T (i + 1) prop ov O 0 l c) ∧ (ok = false → CTook w w' B b lv T i prop ov O 4 (tkAt T i).line (tkAt T i).col)

set_option maxHeartbeats 2000000 in
theorem need_any {w : World} {B b : Nat} {lv : Value} {T : List Tk} {i : Int} {prop : Bool} {ov : Value} {O : List It} {line col : Int} (h : Cr w B b lv T i prop ov O 0 line col) (hB : B ≤ w.heap.size) (kind : Int) (s : ByteArray) (hlo : -9223372036854775808 ≤ i) (hhi : i ≤ 2000000) :
    Calls Tryz.prog 63 #[.pointer (some ⟨b, 0, none⟩), .int .i64 kind, .string s] w (Needed w B b lv T i prop ov O (isTk T i kind s)) := by
  have HR := Lib.hid h
  obtain ⟨ok, hok⟩ : ∃ ok, isTk T i kind s = ok := ⟨_, rfl⟩
  have HK := Lib.hid hok
  rw [hok]
  clear h hok
  go_enter Tryz.func63, Tryz.ntmps63
  go_wp2_with fail
  refine (ctake_any HR.out hB kind s hlo hhi).mono ?_
  rw [HK.out]
  rintro e w1 ⟨rfl, hc⟩
  have HC := Lib.hid hc
  clear hc
  cases ok
  · have HC0 := Lib.hid (show CTook w w1 B b lv T i prop ov O 0 line col from HC.out)
    go_wp2_with fail
    refine (cfail_any HC0.out.rd (Nat.le_trans hB HC0.out.low.size) 4 rfl).mono ?_
    rintro e w2 ⟨rfl, hc2⟩
    have HF := Lib.hid (show CTook w w2 B b lv T i prop ov O 4 (tkAt T i).line (tkAt T i).col from ⟨hc2.rd, HC0.out.low.trans hc2.low, HC0.out.kept.trans hc2.kept⟩)
    clear hc2
    go_wp2
    go_ret
    exact ⟨rfl, fun e => by simp at e, fun _ => HF.out⟩
  · have HC1 := Lib.hid (show CTook w w1 B b lv T (i + 1) prop ov O 0 line col from HC.out)
    go_wp2
    go_ret
    exact ⟨rfl, fun _ => ⟨line, col, HC1.out⟩, fun e => by simp at e⟩

/-- a token in a block of its own -/
def TkB (w : World) (b : Nat) (x : Tk) : Prop := w.heap[b]? = some (.cells #[.int .i64 x.kind, .string x.text, .int .i64 x.num, .int .i64 x.line, .int .i64 x.col] 54 (0, 0))
theorem TkB.facts {w : World} {b : Nat} {x : Tk} (h : TkB w b x) :
    w.cell? ⟨b, 0, none⟩ = some (.int .i64 x.kind) ∧ w.cell? ⟨b, 1, none⟩ = some (.string x.text) ∧ w.cell? ⟨b, 2, none⟩ = some (.int .i64 x.num) ∧ w.cell? ⟨b, 3, none⟩ = some (.int .i64 x.line) ∧ w.cell? ⟨b, 4, none⟩ = some (.int .i64 x.col) := by
  unfold TkB at h
  refine ⟨?_, ?_, ?_, ?_, ?_⟩ <;> simp [World.cell?, h]
theorem TkB.free {w : World} {b : Nat} {x : Tk} (h : TkB w b x) :
    w.frozen? ⟨b, 0, none⟩ = false ∧ w.frozen? ⟨b, 1, none⟩ = false ∧ w.frozen? ⟨b, 2, none⟩ = false ∧ w.frozen? ⟨b, 3, none⟩ = false ∧ w.frozen? ⟨b, 4, none⟩ = false := by
  unfold TkB at h
  refine ⟨?_, ?_, ?_, ?_, ?_⟩ <;> simp [World.frozen?, h]
theorem TkB.stored {w : World} {b : Nat} {x : Tk} (h : TkB w b x) (y : Tk) :
    TkB (((((w.setCell ⟨b, 0, none⟩ (.int .i64 y.kind)).setCell ⟨b, 1, none⟩ (.string y.text)).setCell ⟨b, 2, none⟩ (.int .i64 y.num)).setCell ⟨b, 3, none⟩ (.int .i64 y.line)).setCell ⟨b, 4, none⟩ (.int .i64 y.col)) b y := by
  have h1 := heap_setCell_same w b 0 _ _ (.int .i64 y.kind) h
  have h2 := heap_setCell_same _ b 1 _ _ (.string y.text) h1
  have h3 := heap_setCell_same _ b 2 _ _ (.int .i64 y.num) h2
  have h4 := heap_setCell_same _ b 3 _ _ (.int .i64 y.line) h3
  exact heap_setCell_same _ b 4 _ _ (.int .i64 y.col) h4
theorem TkB.lt {w : World} {b : Nat} {x : Tk} (h : TkB w b x) : b < w.heap.size := (Array.getElem?_eq_some_iff.1 h).1
theorem TkB.below {w w' : World} {b B : Nat} {x : Tk} (h : TkB w b x) (hb : Below B w w') (hB : b < B) : TkB w' b x := (hb.block b hB).trans h
theorem TkB.alloc {w : World} {b : Nat} {x : Tk} (h : TkB w b x) (o : Obj) : TkB (w.alloc o) b x := (Below.heap_alloc _ _ _ h.lt).trans h
theorem TkB.drew {w : World} {b : Nat} {x : Tk} (h : TkB w b x) : TkB w.drew b x := h
theorem TkB.setOther {w : World} {b g j : Nat} {x : Tk} (h : TkB w b x) (hne : g ≠ b) (u : Value) : TkB (w.setCell ⟨g, j, none⟩ u) b x := (Below.heap_setCell _ _ _ _ (by show b ≠ g; omega)).trans h
theorem TkB.kept {w w' : World} {b k : Nat} {x : Tk} (h : TkB w k x) (ht : Lib.OthersKept 39 (some b) w w') (hkb : k ≠ b) : TkB w' k x :=
  ht k _ h (fun e => hkb (Option.some.inj e)) (fun c fz e => by simp at e)
/-- a store into a token of the step's own -/
theorem CTook.storedTok {w w1 : World} {B b : Nat} {lv : Value} {T : List Tk} {i : Int} {prop : Bool} {ov : Value} {O : List It} {er line col : Int} (h : CTook w w1 B b lv T i prop ov O er line col) {k : Nat} {x : Tk} (hx : TkB w1 k x) (hk : w.heap.size ≤ k) (hb : b < w.heap.size) (hB : B ≤ w.heap.size) (y : Tk) :
    CTook w (((((w1.setCell ⟨k, 0, none⟩ (.int .i64 y.kind)).setCell ⟨k, 1, none⟩ (.string y.text)).setCell ⟨k, 2, none⟩ (.int .i64 y.num)).setCell ⟨k, 3, none⟩ (.int .i64 y.line)).setCell ⟨k, 4, none⟩ (.int .i64 y.col)) B b lv T i prop ov O er line col := by
  have one : ∀ (W : World) (cs : Array Value) (j : Nat) (u : Value), W.heap[k]? = some (.cells cs 54 (0, 0)) → CTook w W B b lv T i prop ov O er line col → CTook w (W.setCell ⟨k, j, none⟩ u) B b lv T i prop ov O er line col := by
    intro W cs j u hW h
    have hbb : Below B W (W.setCell ⟨k, j, none⟩ u) := (Below.refl B W).setCell (p := ⟨k, j, none⟩) (by show B ≤ k; omega) _
    refine ⟨⟨?_, h.rd.low, h.rd.tk.below hbb, row_store h.rd.out hW (by decide) j u⟩, h.low.trans hbb, ?_⟩
    · rw [Below.heap_setCell _ _ _ _ (by show b ≠ k; omega)]; exact h.rd.blk
    · intro q o hq hqb hqo
      rw [Below.heap_setCell _ _ _ _ (by show q ≠ k; have := (Array.getElem?_eq_some_iff.1 hq).1; omega)]
      exact h.kept q o hq hqb hqo
  have h1 := heap_setCell_same w1 k 0 _ _ (.int .i64 y.kind) hx
  have h2 := heap_setCell_same _ k 1 _ _ (.string y.text) h1
  have h3 := heap_setCell_same _ k 2 _ _ (.int .i64 y.num) h2
  have h4 := heap_setCell_same _ k 3 _ _ (.int .i64 y.line) h3
  exact one _ _ 4 _ h4 (one _ _ 3 _ h3 (one _ _ 2 _ h2 (one _ _ 1 _ h1 (one _ _ 0 _ hx h))))

/-- what name leaves -/
def Named (w : World) (B b : Nat) (lv : Value) (T : List Tk) (i : Int) (prop : Bool) (ov : Value) (O : List It) (e : Ending) (w' : World) : Prop :=
  e = .returned (.tuple #[tokV (tkAt T i), .bool (decide ((tkAt T i).kind = 1))]) ∧ ((tkAt T i).kind = 1 → ∃ l c, CTook w w' B b lv T (i + 1) prop ov O 0 l c) ∧ ((tkAt T i).kind ≠ 1 → CTook w w' B b lv T i prop ov O 4 (tkAt T i).line (tkAt T i).col)

set_option maxHeartbeats 800000 in
theorem name_any {w : World} {B b : Nat} {lv : Value} {T : List Tk} {i : Int} {prop : Bool} {ov : Value} {O : List It} {line col : Int} (h : Cr w B b lv T i prop ov O 0 line col) (hB : B ≤ w.heap.size) (hlo : -9223372036854775808 ≤ i) (hhi : i ≤ 2000000) :
    Calls Tryz.prog 96 #[.pointer (some ⟨b, 0, none⟩)] w (Named w B b lv T i prop ov O) := by
  have HR := Lib.hid h
  have hbl := h.lt
  obtain ⟨x, hx⟩ : ∃ x, tkAt T i = x := ⟨_, rfl⟩
  have HX := Lib.hid hx
  clear h hx
  go_enter Tryz.func96, Tryz.ntmps96
  go_wp2_with fail
  refine (now_any (HR.out.keep ((Below.refl _ _).alloc (Nat.le_refl _) _) hB)).mono ?_
  rintro e w1 ⟨rfl, hb1⟩
  rw [HX.out]
  unfold tokV
  have HB1 := Lib.hid (((Below.refl _ w).alloc (Nat.le_refl _) (.cells #[.int .i64 0, .string ⟨#[]⟩, .int .i64 0, .int .i64 0, .int .i64 0] 54)).trans (hb1.mono (by simp)))
  have HC1 := Lib.hid ((CTook.of_rd HR.out).then HB1.out hB)
  have hr := (show TkB (w.alloc (.cells #[.int .i64 0, .string ⟨#[]⟩, .int .i64 0, .int .i64 0, .int .i64 0] 54)) w.heap.size ⟨0, ⟨#[]⟩, 0, 0, 0⟩ from heap_alloc_new w _).below hb1 (by simp)
  have hsz := HB1.out.size
  have hrl := hr.lt
  have hbl1 := HC1.out.rd.lt
  have HCT := Lib.hid (HC1.out.then ((Below.refl _ _).alloc (Nat.le_refl _) (.cells #[.int .i64 x.kind, .string x.text, .int .i64 x.num, .int .i64 x.line, .int .i64 x.col] 54)) hB)
  have HR0 := Lib.hid hr
  have HR1 := Lib.hid (hr.alloc (.cells #[.int .i64 x.kind, .string x.text, .int .i64 x.num, .int .i64 x.line, .int .i64 x.col] 54))
  have HT1 := Lib.hid (show TkB (w1.alloc (.cells #[.int .i64 x.kind, .string x.text, .int .i64 x.num, .int .i64 x.line, .int .i64 x.col] 54)) w1.heap.size x from heap_alloc_new w1 _)
  clear hb1 hr
  by_cases hk : x.kind = 1
  · have hkb : (x.kind == 1) = true := by rw [beq_iff_eq]; exact hk
    have hk1 := Lib.hid hk
    clear hk
    obtain ⟨_, c1, _, _, _, _, _⟩ := HC1.out.rd.facts
    obtain ⟨f1, _, _, _, _⟩ := HC1.out.rd.free
    have hR2 := HR0.out.setOther (g := b) (j := 1) (by omega) (.int .i64 (i + 1))
    have HM := Lib.hid (((HC1.out.moved (i + 1)).storedTok hR2 (Nat.le_refl _) hbl hB x).then ((Below.refl _ _).alloc (Nat.le_refl _) (.cells #[.int .i64 x.kind, .string x.text, .int .i64 x.num, .int .i64 x.line, .int .i64 x.col] 54)) hB)
    have HE := Lib.hid ((hR2.stored x).alloc (.cells #[.int .i64 x.kind, .string x.text, .int .i64 x.num, .int .i64 x.line, .int .i64 x.col] 54)).facts
    clear hR2
    obtain ⟨r0, r1, r2, r3, r4⟩ := HR0.out.free
    obtain ⟨s0, s1, s2, s3, s4⟩ := HR0.out.facts
    go_wp2
    obtain ⟨e0, e1, e2, e3, e4⟩ := HE.out
    exact bodyPost_ret (v := .tuple #[tokV x, .bool true]) (by simp [results, Tryz.results96, go_sem, tokV, e0, e1, e2, e3, e4]) rfl ⟨by rw [HX.out, decide_eq_true hk1.out], fun _ => ⟨line, col, HM.out⟩, fun hh => absurd (by rw [HX.out]; exact hk1.out) hh⟩
  · have hkb : (x.kind == 1) = false := beq_eq_false_iff_ne.2 hk
    have hk1 := Lib.hid hk
    clear hk
    have hbz := Nat.le_trans hB HCT.out.low.size
    obtain ⟨t0, t1, t2, t3, t4⟩ := HT1.out.facts
    have HCall : Calls Tryz.prog 62 #[.pointer (some ⟨b, 0, none⟩), .int .i64 4] (w1.alloc (.cells #[.int .i64 x.kind, .string x.text, .int .i64 x.num, .int .i64 x.line, .int .i64 x.col] 54)).drew (fun e w2 => e = .returned (.bool false) ∧ TkB w2 w1.heap.size x ∧ TkB w2 w.heap.size ⟨0, ⟨#[]⟩, 0, 0, 0⟩ ∧ CTook w w2 B b lv T i prop ov O 4 (tkAt T i).line (tkAt T i).col) := by
      refine (cfail_any HCT.out.rd.drew hbz 4 rfl).mono ?_
      rintro e w2 ⟨rfl, hc2⟩
      exact ⟨rfl, HT1.out.drew.kept hc2.kept (by omega), HR1.out.drew.kept hc2.kept (by omega), ⟨hc2.rd, (HCT.out.low.drew).trans hc2.low, HCT.out.kept.trans hc2.kept⟩⟩
    have HCall := Lib.hid HCall
    go_wp2_with fail
    go_region_with (go_at_call 62; refine HCall.out.mono ?_; rintro e w2 ⟨rfl, hx2, hr2, hf2⟩; obtain ⟨s0, s1, s2, s3, s4⟩ := hr2.facts; obtain ⟨r0, r1, r2, r3, r4⟩ := hr2.free; obtain ⟨u0, u1, u2, u3, u4⟩ := hx2.facts; have HM := Lib.hid (hf2.storedTok hr2 (Nat.le_refl _) hbl hB x); have HE := Lib.hid (hr2.stored x).facts; clear hx2 hr2 hf2)
    all_goals go_wp2
    all_goals (obtain ⟨e0, e1, e2, e3, e4⟩ := HE.out)
    all_goals exact bodyPost_ret (v := .tuple #[tokV x, .bool false]) (by simp [results, Tryz.results96, go_sem, tokV, e0, e1, e2, e3, e4]) rfl ⟨by rw [HX.out, decide_eq_false hk1.out], fun hh => absurd (by rw [HX.out] at hh; exact hh) hk1.out, fun _ => HM.out⟩

end Go.Proofs.YthhjepgcbfmfeaaGreatDoor
