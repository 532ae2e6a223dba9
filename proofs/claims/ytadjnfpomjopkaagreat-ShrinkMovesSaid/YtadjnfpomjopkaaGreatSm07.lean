/- eval: the asker: step (printed by gen_ev3.py). -/
import Derived.Test.YtadjnfpomjopkaaGreatSm06
import Derived.Deep.RegionHeld3

namespace Go.Proofs.YtadjnfpomjopkaaGreat
open Go.RowKit

def lessF (sb : Nat) : Value := .func (.func 99) #[] #[.pointer (some ⟨sb, 0, none⟩)]
/-- what a step leaves, or it is thrown -/
def StepPost (base : Nat) (w : World) (b : Nat) (h0 h1 h2 h3 h4 h5 : Value) (o : Option (List Bool)) (e : Ending) (w' : World) : Prop :=
  match o with
  | some S => AkPost base w b h0 h1 h2 h3 h4 h5 S (.tuple #[]) e w'
  | none => e = .panicked [{ v := lostV, recovered := false }] ∧ Below base w w' ∧ OthK w w' b
/-- an asker at work: its own cells, and what lies below -/
structure AkW (wb w : World) (b sb : Nat) (v0 v3 v4 : Value) (s : Sta) (R : List Bool) : Prop where
  ak : AkB wb.heap.size w b v0 (.int .i64 s.opn) (.int .i64 s.dne) v3 v4 (lessF sb) R
  low : Below wb.heap.size wb w
  st : StR wb v0 v3 v4 s
  box : Blk wb sb #[v0, .int .i64 s.opn, .int .i64 s.dne, v3, v4] 44
def insV (x : Ins) : Value := .agg #[.int .i64 x.op, .int .i64 x.l.1, .int .i64 x.l.2, .int .i64 x.r.1, .int .i64 x.r.2, .int .i64 x.n, .int .i64 x.user]
def notR : List Bool → Option (List Bool)
  | a :: T => some ((!a) :: T)
  | [] => none
def binR (op : Int) : List Bool → Option (List Bool)
  | r :: l :: T => some (opB op l r :: T)
  | _ => none
/-- what is thrown, whatever lies there by then -/
theorem askS_none {s : Sta} {x : Ins} {R : List Bool} (h : x.op ≠ 1) (h2 : x.op ≠ 2) (h38 : ¬ (3 ≤ x.op ∧ x.op ≤ 8)) (h9 : x.op ≠ 9) (h10 : x.op ≠ 10) (h15 : x.op ≠ 15) (h16 : ¬ (16 ≤ x.op ∧ x.op ≤ 18)) : askS s x R = none := by
  unfold askS
  rw [if_neg h15, if_neg h16]
  unfold atomI
  rw [if_neg h, if_neg h2, if_neg h38, if_neg h9, if_neg h10]

set_option maxRecDepth 100000 in
set_option maxHeartbeats 4000000 in
theorem astep_tf {wb w : World} {b sb : Nat} {v0 v3 v4 : Value} {s : Sta} {R : List Bool} (h : AkW wb w b sb v0 v3 v4 s R) (hl : R.length ≤ 900) (x : Ins) (hx : x.op = 1 ∨ x.op = 2) :
    Calls Tryz.prog 113 #[.pointer (some ⟨b, 0, none⟩), insV x] w (StepPost wb.heap.size w b v0 (.int .i64 s.opn) (.int .i64 s.dne) v3 v4 (lessF sb) (askS s x R)) := by
  unfold insV
  obtain ⟨W1, hW1⟩ : ∃ W1, w.alloc (.cells #[.int .i64 x.op, .int .i64 x.l.1, .int .i64 x.l.2, .int .i64 x.r.1, .int .i64 x.r.2, .int .i64 x.n, .int .i64 x.user] 37) = W1 := ⟨_, rfl⟩
  have hb1 : Below w.heap.size w W1 := by rw [← hW1]; exact (Below.refl _ w).alloc (Nat.le_refl _) _
  have hbw : Below wb.heap.size wb W1 := h.low.trans (hb1.mono h.low.size)
  have x1 : Blk W1 w.heap.size #[.int .i64 x.op, .int .i64 x.l.1, .int .i64 x.l.2, .int .i64 x.r.1, .int .i64 x.r.2, .int .i64 x.n, .int .i64 x.user] 37 := by rw [← hW1]; exact Blk.new _ _ _
  have hak : AkB wb.heap.size W1 b v0 (.int .i64 s.opn) (.int .i64 s.dne) v3 v4 (lessF sb) R := h.ak.keep hb1
  have hbb : b < w.heap.size := by obtain ⟨_, hb, _⟩ := h.ak; exact hb.lt
  have HB1 := Lib.hid (hb1.mono h.low.size)
  have HO1 := Lib.hid (OthK.of_below (b := b) hb1)
  have HP : Hid (∀ (W : World) (t : Bool) (Q : List Bool), Below wb.heap.size w W → OthK w W b → AkB wb.heap.size W b v0 (.int .i64 s.opn) (.int .i64 s.dne) v3 v4 (lessF sb) Q → Q.length ≤ 902 → Calls Tryz.prog 119 #[.pointer (some ⟨b, 0, none⟩), .bool t] W fun e w' => AkPost wb.heap.size w b v0 (.int .i64 s.opn) (.int .i64 s.dne) v3 v4 (lessF sb) (t :: Q) (.tuple #[]) e w' ∧ OthK W w' b) := by
    intro W t Q hW hO hA hQ
    refine (apush_any hA (by omega) t).mono ?_
    rintro e w' ⟨he, ha, hB, hO2⟩
    exact ⟨⟨he, ha, hW.trans hB, hO.trans hO2⟩, hO2⟩
  have HSE : Hid (∀ (W : World) (Q : List Bool), AkB wb.heap.size W b v0 (.int .i64 s.opn) (.int .i64 s.dne) v3 v4 (lessF sb) Q → OthK W1 W b → W.cell? ⟨b, 1, none⟩ = some (.int .i64 s.opn) ∧ W.cell? ⟨b, 2, none⟩ = some (.int .i64 s.dne) ∧ W.cell? ⟨b, 5, none⟩ = some (.func (.func 99) #[] #[.pointer (some ⟨sb, 0, none⟩)]) ∧ W.cell? ⟨w.heap.size, 0, none⟩ = some (.int .i64 x.op) ∧ (W.cell? ⟨w.heap.size, 1, none⟩ = some (.int .i64 x.l.1) ∧ W.cell? ⟨w.heap.size, 2, none⟩ = some (.int .i64 x.l.2) ∧ W.cell? ⟨w.heap.size, 3, none⟩ = some (.int .i64 x.r.1) ∧ W.cell? ⟨w.heap.size, 4, none⟩ = some (.int .i64 x.r.2)) ∧ W.cell? ⟨w.heap.size, 5, none⟩ = some (.int .i64 x.n)) := by
    intro W Q hA hO
    obtain ⟨rv, y, _, _⟩ := hA
    have y1 := hO _ _ _ (by omega) (by decide) x1
    exact ⟨y.cell rfl, y.cell rfl, y.cell rfl, y1.cell rfl, ⟨y1.cell rfl, y1.cell rfl, y1.cell rfl, y1.cell rfl⟩, y1.cell rfl⟩
  have HSF : Hid (∀ W, Below W1.heap.size W1 W → W.cell? ⟨b, 1, none⟩ = some (.int .i64 s.opn) ∧ W.cell? ⟨b, 2, none⟩ = some (.int .i64 s.dne) ∧ W.cell? ⟨b, 5, none⟩ = some (.func (.func 99) #[] #[.pointer (some ⟨sb, 0, none⟩)]) ∧ W.cell? ⟨w.heap.size, 0, none⟩ = some (.int .i64 x.op) ∧ (W.cell? ⟨w.heap.size, 1, none⟩ = some (.int .i64 x.l.1) ∧ W.cell? ⟨w.heap.size, 2, none⟩ = some (.int .i64 x.l.2) ∧ W.cell? ⟨w.heap.size, 3, none⟩ = some (.int .i64 x.r.1) ∧ W.cell? ⟨w.heap.size, 4, none⟩ = some (.int .i64 x.r.2)) ∧ W.cell? ⟨w.heap.size, 5, none⟩ = some (.int .i64 x.n)) := fun W hW => HSE.out W _ (hak.keep hW) (OthK.of_below hW)
  have HLESS : Hid (∀ W, Below W1.heap.size W1 W → Calls Tryz.prog 99 #[.agg #[.int .i64 x.l.1, .int .i64 x.l.2], .agg #[.int .i64 x.r.1, .int .i64 x.r.2], .pointer (some ⟨sb, 0, none⟩)] W (OrLost W (if (thereV s x.l && thereV s x.r) = true then some (.int .i64 (cmpI (valV s x.l) (valV s x.r))) else none))) := by
    intro W hW
    have q := hbw.trans (hW.mono hbw.size)
    exact less_any (h.st.below q) (h.box.keep q) x.l x.r
  have HAK := Lib.hid hak
  have HBW := Lib.hid hbw.size
  obtain ⟨d1, d2, d5, c0, ⟨c1, c2, c3, c4⟩, c5⟩ := HSF.out _ (Below.refl _ _)
  clear h hbw hak hb1 x1 hbb
  rcases hx with hx | hx
  · have HE : Hid (askS s x R = some (true :: R)) := by unfold Hid askS atomI; rw [hx]; rfl
    rw [HE.out]
    rw [hx] at c0 hW1
    rw [hx]
    clear HE HLESS HSE HSF
    go_enter Tryz.func113, Tryz.ntmps113
    go_wp2_with fail
    refine (HP.out _ _ _ HB1.out HO1.out HAK.out (by omega)).mono ?_
    rintro e w2 ⟨⟨rfl, ha, hB, hO⟩, _⟩
    go_wp2
    refine bodyPost_ret (results_none rfl _ _ _) rfl ?_
    exact ⟨rfl, ha, hB, hO⟩
  · have HE : Hid (askS s x R = some (false :: R)) := by unfold Hid askS atomI; rw [hx]; rfl
    rw [HE.out]
    rw [hx] at c0 hW1
    rw [hx]
    clear HE HLESS HSE HSF
    go_enter Tryz.func113, Tryz.ntmps113
    go_wp2_with fail
    refine (HP.out _ _ _ HB1.out HO1.out HAK.out (by omega)).mono ?_
    rintro e w2 ⟨⟨rfl, ha, hB, hO⟩, _⟩
    go_wp2
    refine bodyPost_ret (results_none rfl _ _ _) rfl ?_
    exact ⟨rfl, ha, hB, hO⟩

set_option maxRecDepth 100000 in
set_option maxHeartbeats 4000000 in
theorem astep_od {wb w : World} {b sb : Nat} {v0 v3 v4 : Value} {s : Sta} {R : List Bool} (h : AkW wb w b sb v0 v3 v4 s R) (hl : R.length ≤ 900) (x : Ins) (hx : x.op = 9 ∨ x.op = 10) :
    Calls Tryz.prog 113 #[.pointer (some ⟨b, 0, none⟩), insV x] w (StepPost wb.heap.size w b v0 (.int .i64 s.opn) (.int .i64 s.dne) v3 v4 (lessF sb) (askS s x R)) := by
  unfold insV
  obtain ⟨W1, hW1⟩ : ∃ W1, w.alloc (.cells #[.int .i64 x.op, .int .i64 x.l.1, .int .i64 x.l.2, .int .i64 x.r.1, .int .i64 x.r.2, .int .i64 x.n, .int .i64 x.user] 37) = W1 := ⟨_, rfl⟩
  have hb1 : Below w.heap.size w W1 := by rw [← hW1]; exact (Below.refl _ w).alloc (Nat.le_refl _) _
  have hbw : Below wb.heap.size wb W1 := h.low.trans (hb1.mono h.low.size)
  have x1 : Blk W1 w.heap.size #[.int .i64 x.op, .int .i64 x.l.1, .int .i64 x.l.2, .int .i64 x.r.1, .int .i64 x.r.2, .int .i64 x.n, .int .i64 x.user] 37 := by rw [← hW1]; exact Blk.new _ _ _
  have hak : AkB wb.heap.size W1 b v0 (.int .i64 s.opn) (.int .i64 s.dne) v3 v4 (lessF sb) R := h.ak.keep hb1
  have hbb : b < w.heap.size := by obtain ⟨_, hb, _⟩ := h.ak; exact hb.lt
  have HB1 := Lib.hid (hb1.mono h.low.size)
  have HO1 := Lib.hid (OthK.of_below (b := b) hb1)
  have HP : Hid (∀ (W : World) (t : Bool) (Q : List Bool), Below wb.heap.size w W → OthK w W b → AkB wb.heap.size W b v0 (.int .i64 s.opn) (.int .i64 s.dne) v3 v4 (lessF sb) Q → Q.length ≤ 902 → Calls Tryz.prog 119 #[.pointer (some ⟨b, 0, none⟩), .bool t] W fun e w' => AkPost wb.heap.size w b v0 (.int .i64 s.opn) (.int .i64 s.dne) v3 v4 (lessF sb) (t :: Q) (.tuple #[]) e w' ∧ OthK W w' b) := by
    intro W t Q hW hO hA hQ
    refine (apush_any hA (by omega) t).mono ?_
    rintro e w' ⟨he, ha, hB, hO2⟩
    exact ⟨⟨he, ha, hW.trans hB, hO.trans hO2⟩, hO2⟩
  have HSE : Hid (∀ (W : World) (Q : List Bool), AkB wb.heap.size W b v0 (.int .i64 s.opn) (.int .i64 s.dne) v3 v4 (lessF sb) Q → OthK W1 W b → W.cell? ⟨b, 1, none⟩ = some (.int .i64 s.opn) ∧ W.cell? ⟨b, 2, none⟩ = some (.int .i64 s.dne) ∧ W.cell? ⟨b, 5, none⟩ = some (.func (.func 99) #[] #[.pointer (some ⟨sb, 0, none⟩)]) ∧ W.cell? ⟨w.heap.size, 0, none⟩ = some (.int .i64 x.op) ∧ (W.cell? ⟨w.heap.size, 1, none⟩ = some (.int .i64 x.l.1) ∧ W.cell? ⟨w.heap.size, 2, none⟩ = some (.int .i64 x.l.2) ∧ W.cell? ⟨w.heap.size, 3, none⟩ = some (.int .i64 x.r.1) ∧ W.cell? ⟨w.heap.size, 4, none⟩ = some (.int .i64 x.r.2)) ∧ W.cell? ⟨w.heap.size, 5, none⟩ = some (.int .i64 x.n)) := by
    intro W Q hA hO
    obtain ⟨rv, y, _, _⟩ := hA
    have y1 := hO _ _ _ (by omega) (by decide) x1
    exact ⟨y.cell rfl, y.cell rfl, y.cell rfl, y1.cell rfl, ⟨y1.cell rfl, y1.cell rfl, y1.cell rfl, y1.cell rfl⟩, y1.cell rfl⟩
  have HSF : Hid (∀ W, Below W1.heap.size W1 W → W.cell? ⟨b, 1, none⟩ = some (.int .i64 s.opn) ∧ W.cell? ⟨b, 2, none⟩ = some (.int .i64 s.dne) ∧ W.cell? ⟨b, 5, none⟩ = some (.func (.func 99) #[] #[.pointer (some ⟨sb, 0, none⟩)]) ∧ W.cell? ⟨w.heap.size, 0, none⟩ = some (.int .i64 x.op) ∧ (W.cell? ⟨w.heap.size, 1, none⟩ = some (.int .i64 x.l.1) ∧ W.cell? ⟨w.heap.size, 2, none⟩ = some (.int .i64 x.l.2) ∧ W.cell? ⟨w.heap.size, 3, none⟩ = some (.int .i64 x.r.1) ∧ W.cell? ⟨w.heap.size, 4, none⟩ = some (.int .i64 x.r.2)) ∧ W.cell? ⟨w.heap.size, 5, none⟩ = some (.int .i64 x.n)) := fun W hW => HSE.out W _ (hak.keep hW) (OthK.of_below hW)
  have HLESS : Hid (∀ W, Below W1.heap.size W1 W → Calls Tryz.prog 99 #[.agg #[.int .i64 x.l.1, .int .i64 x.l.2], .agg #[.int .i64 x.r.1, .int .i64 x.r.2], .pointer (some ⟨sb, 0, none⟩)] W (OrLost W (if (thereV s x.l && thereV s x.r) = true then some (.int .i64 (cmpI (valV s x.l) (valV s x.r))) else none))) := by
    intro W hW
    have q := hbw.trans (hW.mono hbw.size)
    exact less_any (h.st.below q) (h.box.keep q) x.l x.r
  have HAK := Lib.hid hak
  have HBW := Lib.hid hbw.size
  obtain ⟨d1, d2, d5, c0, ⟨c1, c2, c3, c4⟩, c5⟩ := HSF.out _ (Below.refl _ _)
  clear h hbw hak hb1 x1 hbb
  rcases hx with hx | hx
  · have HE : Hid (askS s x R = some (hasB s.opn x.n :: R)) := by unfold Hid askS atomI; rw [hx]; rfl
    rw [HE.out]
    rw [hx] at c0 hW1 HSE HSF
    rw [hx]
    clear HE HLESS
    go_enter Tryz.func113, Tryz.ntmps113
    go_wp2_with fail
    have hbz : Below W1.heap.size W1 W1.drew := (Below.refl _ _).drew
    first
    | (go_region_held3 (fun W => W.cell? ⟨b, 1, none⟩ = some (.int .i64 s.opn) ∧ W.cell? ⟨b, 2, none⟩ = some (.int .i64 s.dne) ∧ W.cell? ⟨b, 5, none⟩ = some (.func (.func 99) #[] #[.pointer (some ⟨sb, 0, none⟩)]) ∧ W.cell? ⟨w.heap.size, 0, none⟩ = some (.int .i64 9) ∧ (W.cell? ⟨w.heap.size, 1, none⟩ = some (.int .i64 x.l.1) ∧ W.cell? ⟨w.heap.size, 2, none⟩ = some (.int .i64 x.l.2) ∧ W.cell? ⟨w.heap.size, 3, none⟩ = some (.int .i64 x.r.1) ∧ W.cell? ⟨w.heap.size, 4, none⟩ = some (.int .i64 x.r.2)) ∧ W.cell? ⟨w.heap.size, 5, none⟩ = some (.int .i64 x.n))
        (first | exact HSF.out _ (by assumption) | assumption | go_keep)
        (first
          | (go_simp; go_at_call 96; (with_reducible refine (has_any _ _ _).mono ?_)
             rintro e w7 ⟨rfl, rfl⟩)
          | (go_simp; go_at_call 119; (with_reducible refine (HP.out _ _ _ (HB1.out.trans (hbz.mono HBW.out)) (HO1.out.trans (OthK.of_below hbz)) (HAK.out.keep hbz) (by omega)).mono ?_)
             rintro e w8 ⟨⟨rfl, ha, hB, hO⟩, hO2⟩
             have hS8 := HSE.out w8 _ ha ((OthK.of_below hbz).trans hO2))))
    | fail
    all_goals
      go_wp2
      refine bodyPost_ret (results_none rfl _ _ _) rfl ?_
      exact ⟨rfl, ha, hB, hO⟩
  · have HE : Hid (askS s x R = some (hasB s.dne x.n :: R)) := by unfold Hid askS atomI; rw [hx]; rfl
    rw [HE.out]
    rw [hx] at c0 hW1 HSE HSF
    rw [hx]
    clear HE HLESS
    go_enter Tryz.func113, Tryz.ntmps113
    go_wp2_with fail
    have hbz : Below W1.heap.size W1 W1.drew := (Below.refl _ _).drew
    first
    | (go_region_held3 (fun W => W.cell? ⟨b, 1, none⟩ = some (.int .i64 s.opn) ∧ W.cell? ⟨b, 2, none⟩ = some (.int .i64 s.dne) ∧ W.cell? ⟨b, 5, none⟩ = some (.func (.func 99) #[] #[.pointer (some ⟨sb, 0, none⟩)]) ∧ W.cell? ⟨w.heap.size, 0, none⟩ = some (.int .i64 10) ∧ (W.cell? ⟨w.heap.size, 1, none⟩ = some (.int .i64 x.l.1) ∧ W.cell? ⟨w.heap.size, 2, none⟩ = some (.int .i64 x.l.2) ∧ W.cell? ⟨w.heap.size, 3, none⟩ = some (.int .i64 x.r.1) ∧ W.cell? ⟨w.heap.size, 4, none⟩ = some (.int .i64 x.r.2)) ∧ W.cell? ⟨w.heap.size, 5, none⟩ = some (.int .i64 x.n))
        (first | exact HSF.out _ (by assumption) | assumption | go_keep)
        (first
          | (go_simp; go_at_call 96; (with_reducible refine (has_any _ _ _).mono ?_)
             rintro e w7 ⟨rfl, rfl⟩)
          | (go_simp; go_at_call 119; (with_reducible refine (HP.out _ _ _ (HB1.out.trans (hbz.mono HBW.out)) (HO1.out.trans (OthK.of_below hbz)) (HAK.out.keep hbz) (by omega)).mono ?_)
             rintro e w8 ⟨⟨rfl, ha, hB, hO⟩, hO2⟩
             have hS8 := HSE.out w8 _ ha ((OthK.of_below hbz).trans hO2))))
    | fail
    all_goals
      go_wp2
      refine bodyPost_ret (results_none rfl _ _ _) rfl ?_
      exact ⟨rfl, ha, hB, hO⟩

set_option maxRecDepth 100000 in
set_option maxHeartbeats 4000000 in
theorem astep_not {wb w : World} {b sb : Nat} {v0 v3 v4 : Value} {s : Sta} {R : List Bool} (h : AkW wb w b sb v0 v3 v4 s R) (hl : R.length ≤ 900) (x : Ins) (hx : x.op = 15) :
    Calls Tryz.prog 113 #[.pointer (some ⟨b, 0, none⟩), insV x] w (StepPost wb.heap.size w b v0 (.int .i64 s.opn) (.int .i64 s.dne) v3 v4 (lessF sb) (askS s x R)) := by
  unfold insV
  obtain ⟨W1, hW1⟩ : ∃ W1, w.alloc (.cells #[.int .i64 x.op, .int .i64 x.l.1, .int .i64 x.l.2, .int .i64 x.r.1, .int .i64 x.r.2, .int .i64 x.n, .int .i64 x.user] 37) = W1 := ⟨_, rfl⟩
  have hb1 : Below w.heap.size w W1 := by rw [← hW1]; exact (Below.refl _ w).alloc (Nat.le_refl _) _
  have hbw : Below wb.heap.size wb W1 := h.low.trans (hb1.mono h.low.size)
  have x1 : Blk W1 w.heap.size #[.int .i64 x.op, .int .i64 x.l.1, .int .i64 x.l.2, .int .i64 x.r.1, .int .i64 x.r.2, .int .i64 x.n, .int .i64 x.user] 37 := by rw [← hW1]; exact Blk.new _ _ _
  have hak : AkB wb.heap.size W1 b v0 (.int .i64 s.opn) (.int .i64 s.dne) v3 v4 (lessF sb) R := h.ak.keep hb1
  have hbb : b < w.heap.size := by obtain ⟨_, hb, _⟩ := h.ak; exact hb.lt
  have HB1 := Lib.hid (hb1.mono h.low.size)
  have HO1 := Lib.hid (OthK.of_below (b := b) hb1)
  have HP : Hid (∀ (W : World) (t : Bool) (Q : List Bool), Below wb.heap.size w W → OthK w W b → AkB wb.heap.size W b v0 (.int .i64 s.opn) (.int .i64 s.dne) v3 v4 (lessF sb) Q → Q.length ≤ 902 → Calls Tryz.prog 119 #[.pointer (some ⟨b, 0, none⟩), .bool t] W fun e w' => AkPost wb.heap.size w b v0 (.int .i64 s.opn) (.int .i64 s.dne) v3 v4 (lessF sb) (t :: Q) (.tuple #[]) e w' ∧ OthK W w' b) := by
    intro W t Q hW hO hA hQ
    refine (apush_any hA (by omega) t).mono ?_
    rintro e w' ⟨he, ha, hB, hO2⟩
    exact ⟨⟨he, ha, hW.trans hB, hO.trans hO2⟩, hO2⟩
  have HSE : Hid (∀ (W : World) (Q : List Bool), AkB wb.heap.size W b v0 (.int .i64 s.opn) (.int .i64 s.dne) v3 v4 (lessF sb) Q → OthK W1 W b → W.cell? ⟨b, 1, none⟩ = some (.int .i64 s.opn) ∧ W.cell? ⟨b, 2, none⟩ = some (.int .i64 s.dne) ∧ W.cell? ⟨b, 5, none⟩ = some (.func (.func 99) #[] #[.pointer (some ⟨sb, 0, none⟩)]) ∧ W.cell? ⟨w.heap.size, 0, none⟩ = some (.int .i64 x.op) ∧ (W.cell? ⟨w.heap.size, 1, none⟩ = some (.int .i64 x.l.1) ∧ W.cell? ⟨w.heap.size, 2, none⟩ = some (.int .i64 x.l.2) ∧ W.cell? ⟨w.heap.size, 3, none⟩ = some (.int .i64 x.r.1) ∧ W.cell? ⟨w.heap.size, 4, none⟩ = some (.int .i64 x.r.2)) ∧ W.cell? ⟨w.heap.size, 5, none⟩ = some (.int .i64 x.n)) := by
    intro W Q hA hO
    obtain ⟨rv, y, _, _⟩ := hA
    have y1 := hO _ _ _ (by omega) (by decide) x1
    exact ⟨y.cell rfl, y.cell rfl, y.cell rfl, y1.cell rfl, ⟨y1.cell rfl, y1.cell rfl, y1.cell rfl, y1.cell rfl⟩, y1.cell rfl⟩
  have HSF : Hid (∀ W, Below W1.heap.size W1 W → W.cell? ⟨b, 1, none⟩ = some (.int .i64 s.opn) ∧ W.cell? ⟨b, 2, none⟩ = some (.int .i64 s.dne) ∧ W.cell? ⟨b, 5, none⟩ = some (.func (.func 99) #[] #[.pointer (some ⟨sb, 0, none⟩)]) ∧ W.cell? ⟨w.heap.size, 0, none⟩ = some (.int .i64 x.op) ∧ (W.cell? ⟨w.heap.size, 1, none⟩ = some (.int .i64 x.l.1) ∧ W.cell? ⟨w.heap.size, 2, none⟩ = some (.int .i64 x.l.2) ∧ W.cell? ⟨w.heap.size, 3, none⟩ = some (.int .i64 x.r.1) ∧ W.cell? ⟨w.heap.size, 4, none⟩ = some (.int .i64 x.r.2)) ∧ W.cell? ⟨w.heap.size, 5, none⟩ = some (.int .i64 x.n)) := fun W hW => HSE.out W _ (hak.keep hW) (OthK.of_below hW)
  have HLESS : Hid (∀ W, Below W1.heap.size W1 W → Calls Tryz.prog 99 #[.agg #[.int .i64 x.l.1, .int .i64 x.l.2], .agg #[.int .i64 x.r.1, .int .i64 x.r.2], .pointer (some ⟨sb, 0, none⟩)] W (OrLost W (if (thereV s x.l && thereV s x.r) = true then some (.int .i64 (cmpI (valV s x.l) (valV s x.r))) else none))) := by
    intro W hW
    have q := hbw.trans (hW.mono hbw.size)
    exact less_any (h.st.below q) (h.box.keep q) x.l x.r
  have HAK := Lib.hid hak
  have HBW := Lib.hid hbw.size
  obtain ⟨d1, d2, d5, c0, ⟨c1, c2, c3, c4⟩, c5⟩ := HSF.out _ (Below.refl _ _)
  clear h hbw hak hb1 x1 hbb
  have HE15 : Hid (askS s x R = notR R) := by unfold Hid askS; rw [if_pos hx]; cases R <;> rfl
  rw [HE15.out]
  rw [hx] at c0 hW1
  rw [hx]
  clear HE15 HLESS HSE HSF
  cases R with
  | nil =>
    have HPN := Lib.hid (apop_none HAK.out)
    go_enter Tryz.func113, Tryz.ntmps113
    go_wp2_with fail
    refine HPN.out.mono ?_
    rintro e w2 ⟨rfl, rfl⟩
    go_wp2
    exact ⟨rfl, rfl, HB1.out, HO1.out⟩
  | cons a T =>
    rw [List.length_cons] at hl
    have HPN := Lib.hid (apop_any HAK.out (by omega))
    go_enter Tryz.func113, Tryz.ntmps113
    go_wp2_with fail
    refine HPN.out.mono ?_
    rintro e w2 ⟨rfl, ha, hB, hO⟩
    have HA2 := Lib.hid (And.intro ha (And.intro (HB1.out.trans hB) (HO1.out.trans hO)))
    clear ha hB hO
    go_wp2_with fail
    refine (HP.out _ _ _ HA2.out.2.1 HA2.out.2.2 HA2.out.1 (by omega)).mono ?_
    rintro e w3 ⟨⟨rfl, ha, hB, hO⟩, _⟩
    go_wp2
    refine bodyPost_ret (results_none rfl _ _ _) rfl ?_
    exact ⟨rfl, ha, hB, hO⟩

set_option maxRecDepth 100000 in
set_option maxHeartbeats 4000000 in
theorem astep_b16 {wb w : World} {b sb : Nat} {v0 v3 v4 : Value} {s : Sta} {R : List Bool} (h : AkW wb w b sb v0 v3 v4 s R) (hl : R.length ≤ 900) (x : Ins) (hx : x.op = 16) :
    Calls Tryz.prog 113 #[.pointer (some ⟨b, 0, none⟩), insV x] w (StepPost wb.heap.size w b v0 (.int .i64 s.opn) (.int .i64 s.dne) v3 v4 (lessF sb) (askS s x R)) := by
  unfold insV
  obtain ⟨W1, hW1⟩ : ∃ W1, w.alloc (.cells #[.int .i64 x.op, .int .i64 x.l.1, .int .i64 x.l.2, .int .i64 x.r.1, .int .i64 x.r.2, .int .i64 x.n, .int .i64 x.user] 37) = W1 := ⟨_, rfl⟩
  have hb1 : Below w.heap.size w W1 := by rw [← hW1]; exact (Below.refl _ w).alloc (Nat.le_refl _) _
  have hbw : Below wb.heap.size wb W1 := h.low.trans (hb1.mono h.low.size)
  have x1 : Blk W1 w.heap.size #[.int .i64 x.op, .int .i64 x.l.1, .int .i64 x.l.2, .int .i64 x.r.1, .int .i64 x.r.2, .int .i64 x.n, .int .i64 x.user] 37 := by rw [← hW1]; exact Blk.new _ _ _
  have hak : AkB wb.heap.size W1 b v0 (.int .i64 s.opn) (.int .i64 s.dne) v3 v4 (lessF sb) R := h.ak.keep hb1
  have hbb : b < w.heap.size := by obtain ⟨_, hb, _⟩ := h.ak; exact hb.lt
  have HB1 := Lib.hid (hb1.mono h.low.size)
  have HO1 := Lib.hid (OthK.of_below (b := b) hb1)
  have HP : Hid (∀ (W : World) (t : Bool) (Q : List Bool), Below wb.heap.size w W → OthK w W b → AkB wb.heap.size W b v0 (.int .i64 s.opn) (.int .i64 s.dne) v3 v4 (lessF sb) Q → Q.length ≤ 902 → Calls Tryz.prog 119 #[.pointer (some ⟨b, 0, none⟩), .bool t] W fun e w' => AkPost wb.heap.size w b v0 (.int .i64 s.opn) (.int .i64 s.dne) v3 v4 (lessF sb) (t :: Q) (.tuple #[]) e w' ∧ OthK W w' b) := by
    intro W t Q hW hO hA hQ
    refine (apush_any hA (by omega) t).mono ?_
    rintro e w' ⟨he, ha, hB, hO2⟩
    exact ⟨⟨he, ha, hW.trans hB, hO.trans hO2⟩, hO2⟩
  have HSE : Hid (∀ (W : World) (Q : List Bool), AkB wb.heap.size W b v0 (.int .i64 s.opn) (.int .i64 s.dne) v3 v4 (lessF sb) Q → OthK W1 W b → W.cell? ⟨b, 1, none⟩ = some (.int .i64 s.opn) ∧ W.cell? ⟨b, 2, none⟩ = some (.int .i64 s.dne) ∧ W.cell? ⟨b, 5, none⟩ = some (.func (.func 99) #[] #[.pointer (some ⟨sb, 0, none⟩)]) ∧ W.cell? ⟨w.heap.size, 0, none⟩ = some (.int .i64 x.op) ∧ (W.cell? ⟨w.heap.size, 1, none⟩ = some (.int .i64 x.l.1) ∧ W.cell? ⟨w.heap.size, 2, none⟩ = some (.int .i64 x.l.2) ∧ W.cell? ⟨w.heap.size, 3, none⟩ = some (.int .i64 x.r.1) ∧ W.cell? ⟨w.heap.size, 4, none⟩ = some (.int .i64 x.r.2)) ∧ W.cell? ⟨w.heap.size, 5, none⟩ = some (.int .i64 x.n)) := by
    intro W Q hA hO
    obtain ⟨rv, y, _, _⟩ := hA
    have y1 := hO _ _ _ (by omega) (by decide) x1
    exact ⟨y.cell rfl, y.cell rfl, y.cell rfl, y1.cell rfl, ⟨y1.cell rfl, y1.cell rfl, y1.cell rfl, y1.cell rfl⟩, y1.cell rfl⟩
  have HSF : Hid (∀ W, Below W1.heap.size W1 W → W.cell? ⟨b, 1, none⟩ = some (.int .i64 s.opn) ∧ W.cell? ⟨b, 2, none⟩ = some (.int .i64 s.dne) ∧ W.cell? ⟨b, 5, none⟩ = some (.func (.func 99) #[] #[.pointer (some ⟨sb, 0, none⟩)]) ∧ W.cell? ⟨w.heap.size, 0, none⟩ = some (.int .i64 x.op) ∧ (W.cell? ⟨w.heap.size, 1, none⟩ = some (.int .i64 x.l.1) ∧ W.cell? ⟨w.heap.size, 2, none⟩ = some (.int .i64 x.l.2) ∧ W.cell? ⟨w.heap.size, 3, none⟩ = some (.int .i64 x.r.1) ∧ W.cell? ⟨w.heap.size, 4, none⟩ = some (.int .i64 x.r.2)) ∧ W.cell? ⟨w.heap.size, 5, none⟩ = some (.int .i64 x.n)) := fun W hW => HSE.out W _ (hak.keep hW) (OthK.of_below hW)
  have HLESS : Hid (∀ W, Below W1.heap.size W1 W → Calls Tryz.prog 99 #[.agg #[.int .i64 x.l.1, .int .i64 x.l.2], .agg #[.int .i64 x.r.1, .int .i64 x.r.2], .pointer (some ⟨sb, 0, none⟩)] W (OrLost W (if (thereV s x.l && thereV s x.r) = true then some (.int .i64 (cmpI (valV s x.l) (valV s x.r))) else none))) := by
    intro W hW
    have q := hbw.trans (hW.mono hbw.size)
    exact less_any (h.st.below q) (h.box.keep q) x.l x.r
  have HAK := Lib.hid hak
  have HBW := Lib.hid hbw.size
  obtain ⟨d1, d2, d5, c0, ⟨c1, c2, c3, c4⟩, c5⟩ := HSF.out _ (Below.refl _ _)
  clear h hbw hak hb1 x1 hbb
  have HE : Hid (askS s x R = binR 16 R) := by unfold Hid askS; rw [if_neg (by omega), if_pos (by omega), hx]; rcases R with _ | ⟨r, _ | ⟨l, T⟩⟩ <;> rfl
  rw [HE.out]
  rw [hx] at c0 hW1 HSE
  rw [hx]
  clear HE HLESS HSF
  cases R with
  | nil =>
    have HPN := Lib.hid (apop_none HAK.out)
    go_enter Tryz.func113, Tryz.ntmps113
    go_wp2_with fail
    refine HPN.out.mono ?_
    rintro e w2 ⟨rfl, rfl⟩
    go_wp2
    exact ⟨rfl, rfl, HB1.out, HO1.out⟩
  | cons r T =>
    rw [List.length_cons] at hl
    have HPN := Lib.hid (apop_any HAK.out (by omega))
    go_enter Tryz.func113, Tryz.ntmps113
    go_wp2_with fail
    refine HPN.out.mono ?_
    rintro e w2 ⟨rfl, ha, hB, hO⟩
    have HA2 := Lib.hid (And.intro ha (And.intro (HB1.out.trans hB) (HO1.out.trans hO)))
    obtain ⟨d1, d2, d5, c0, ⟨c1, c2, c3, c4⟩, c5⟩ := HSE.out w2 _ ha hO
    have HO2 := Lib.hid hO
    clear ha hB hO
    cases T with
    | nil =>
      have HPM := Lib.hid (apop_none HA2.out.1)
      go_wp2_with fail
      refine HPM.out.mono ?_
      rintro e w3 ⟨rfl, rfl⟩
      go_wp2
      exact ⟨rfl, rfl, HA2.out.2.1, HA2.out.2.2⟩
    | cons l T =>
      rw [List.length_cons] at hl
      have HPM := Lib.hid (apop_any HA2.out.1 (by omega))
      go_wp2_with fail
      refine HPM.out.mono ?_
      rintro e w3 ⟨rfl, ha, hB, hO⟩
      have HA3 := Lib.hid (And.intro ha (And.intro (HA2.out.2.1.trans hB) (HA2.out.2.2.trans hO)))
      obtain ⟨d1, d2, d5, c0, ⟨c1, c2, c3, c4⟩, c5⟩ := HSE.out w3 _ ha (HO2.out.trans hO)
      clear ha hB hO
      cases l <;> cases r
      · go_wp2_with fail
        refine (HP.out _ _ _ HA3.out.2.1 HA3.out.2.2 HA3.out.1 (by omega)).mono ?_
        rintro e w4 ⟨⟨rfl, ha, hB, hO⟩, _⟩
        go_wp2
        refine bodyPost_ret (results_none rfl _ _ _) rfl ?_
        exact ⟨rfl, ha, hB, hO⟩
      · go_wp2_with fail
        refine (HP.out _ _ _ HA3.out.2.1 HA3.out.2.2 HA3.out.1 (by omega)).mono ?_
        rintro e w4 ⟨⟨rfl, ha, hB, hO⟩, _⟩
        go_wp2
        refine bodyPost_ret (results_none rfl _ _ _) rfl ?_
        exact ⟨rfl, ha, hB, hO⟩
      · go_wp2_with fail
        refine (HP.out _ _ _ HA3.out.2.1 HA3.out.2.2 HA3.out.1 (by omega)).mono ?_
        rintro e w4 ⟨⟨rfl, ha, hB, hO⟩, _⟩
        go_wp2
        refine bodyPost_ret (results_none rfl _ _ _) rfl ?_
        exact ⟨rfl, ha, hB, hO⟩
      · go_wp2_with fail
        refine (HP.out _ _ _ HA3.out.2.1 HA3.out.2.2 HA3.out.1 (by omega)).mono ?_
        rintro e w4 ⟨⟨rfl, ha, hB, hO⟩, _⟩
        go_wp2
        refine bodyPost_ret (results_none rfl _ _ _) rfl ?_
        exact ⟨rfl, ha, hB, hO⟩

set_option maxRecDepth 100000 in
set_option maxHeartbeats 4000000 in
theorem astep_b17 {wb w : World} {b sb : Nat} {v0 v3 v4 : Value} {s : Sta} {R : List Bool} (h : AkW wb w b sb v0 v3 v4 s R) (hl : R.length ≤ 900) (x : Ins) (hx : x.op = 17) :
    Calls Tryz.prog 113 #[.pointer (some ⟨b, 0, none⟩), insV x] w (StepPost wb.heap.size w b v0 (.int .i64 s.opn) (.int .i64 s.dne) v3 v4 (lessF sb) (askS s x R)) := by
  unfold insV
  obtain ⟨W1, hW1⟩ : ∃ W1, w.alloc (.cells #[.int .i64 x.op, .int .i64 x.l.1, .int .i64 x.l.2, .int .i64 x.r.1, .int .i64 x.r.2, .int .i64 x.n, .int .i64 x.user] 37) = W1 := ⟨_, rfl⟩
  have hb1 : Below w.heap.size w W1 := by rw [← hW1]; exact (Below.refl _ w).alloc (Nat.le_refl _) _
  have hbw : Below wb.heap.size wb W1 := h.low.trans (hb1.mono h.low.size)
  have x1 : Blk W1 w.heap.size #[.int .i64 x.op, .int .i64 x.l.1, .int .i64 x.l.2, .int .i64 x.r.1, .int .i64 x.r.2, .int .i64 x.n, .int .i64 x.user] 37 := by rw [← hW1]; exact Blk.new _ _ _
  have hak : AkB wb.heap.size W1 b v0 (.int .i64 s.opn) (.int .i64 s.dne) v3 v4 (lessF sb) R := h.ak.keep hb1
  have hbb : b < w.heap.size := by obtain ⟨_, hb, _⟩ := h.ak; exact hb.lt
  have HB1 := Lib.hid (hb1.mono h.low.size)
  have HO1 := Lib.hid (OthK.of_below (b := b) hb1)
  have HP : Hid (∀ (W : World) (t : Bool) (Q : List Bool), Below wb.heap.size w W → OthK w W b → AkB wb.heap.size W b v0 (.int .i64 s.opn) (.int .i64 s.dne) v3 v4 (lessF sb) Q → Q.length ≤ 902 → Calls Tryz.prog 119 #[.pointer (some ⟨b, 0, none⟩), .bool t] W fun e w' => AkPost wb.heap.size w b v0 (.int .i64 s.opn) (.int .i64 s.dne) v3 v4 (lessF sb) (t :: Q) (.tuple #[]) e w' ∧ OthK W w' b) := by
    intro W t Q hW hO hA hQ
    refine (apush_any hA (by omega) t).mono ?_
    rintro e w' ⟨he, ha, hB, hO2⟩
    exact ⟨⟨he, ha, hW.trans hB, hO.trans hO2⟩, hO2⟩
  have HSE : Hid (∀ (W : World) (Q : List Bool), AkB wb.heap.size W b v0 (.int .i64 s.opn) (.int .i64 s.dne) v3 v4 (lessF sb) Q → OthK W1 W b → W.cell? ⟨b, 1, none⟩ = some (.int .i64 s.opn) ∧ W.cell? ⟨b, 2, none⟩ = some (.int .i64 s.dne) ∧ W.cell? ⟨b, 5, none⟩ = some (.func (.func 99) #[] #[.pointer (some ⟨sb, 0, none⟩)]) ∧ W.cell? ⟨w.heap.size, 0, none⟩ = some (.int .i64 x.op) ∧ (W.cell? ⟨w.heap.size, 1, none⟩ = some (.int .i64 x.l.1) ∧ W.cell? ⟨w.heap.size, 2, none⟩ = some (.int .i64 x.l.2) ∧ W.cell? ⟨w.heap.size, 3, none⟩ = some (.int .i64 x.r.1) ∧ W.cell? ⟨w.heap.size, 4, none⟩ = some (.int .i64 x.r.2)) ∧ W.cell? ⟨w.heap.size, 5, none⟩ = some (.int .i64 x.n)) := by
    intro W Q hA hO
    obtain ⟨rv, y, _, _⟩ := hA
    have y1 := hO _ _ _ (by omega) (by decide) x1
    exact ⟨y.cell rfl, y.cell rfl, y.cell rfl, y1.cell rfl, ⟨y1.cell rfl, y1.cell rfl, y1.cell rfl, y1.cell rfl⟩, y1.cell rfl⟩
  have HSF : Hid (∀ W, Below W1.heap.size W1 W → W.cell? ⟨b, 1, none⟩ = some (.int .i64 s.opn) ∧ W.cell? ⟨b, 2, none⟩ = some (.int .i64 s.dne) ∧ W.cell? ⟨b, 5, none⟩ = some (.func (.func 99) #[] #[.pointer (some ⟨sb, 0, none⟩)]) ∧ W.cell? ⟨w.heap.size, 0, none⟩ = some (.int .i64 x.op) ∧ (W.cell? ⟨w.heap.size, 1, none⟩ = some (.int .i64 x.l.1) ∧ W.cell? ⟨w.heap.size, 2, none⟩ = some (.int .i64 x.l.2) ∧ W.cell? ⟨w.heap.size, 3, none⟩ = some (.int .i64 x.r.1) ∧ W.cell? ⟨w.heap.size, 4, none⟩ = some (.int .i64 x.r.2)) ∧ W.cell? ⟨w.heap.size, 5, none⟩ = some (.int .i64 x.n)) := fun W hW => HSE.out W _ (hak.keep hW) (OthK.of_below hW)
  have HLESS : Hid (∀ W, Below W1.heap.size W1 W → Calls Tryz.prog 99 #[.agg #[.int .i64 x.l.1, .int .i64 x.l.2], .agg #[.int .i64 x.r.1, .int .i64 x.r.2], .pointer (some ⟨sb, 0, none⟩)] W (OrLost W (if (thereV s x.l && thereV s x.r) = true then some (.int .i64 (cmpI (valV s x.l) (valV s x.r))) else none))) := by
    intro W hW
    have q := hbw.trans (hW.mono hbw.size)
    exact less_any (h.st.below q) (h.box.keep q) x.l x.r
  have HAK := Lib.hid hak
  have HBW := Lib.hid hbw.size
  obtain ⟨d1, d2, d5, c0, ⟨c1, c2, c3, c4⟩, c5⟩ := HSF.out _ (Below.refl _ _)
  clear h hbw hak hb1 x1 hbb
  have HE : Hid (askS s x R = binR 17 R) := by unfold Hid askS; rw [if_neg (by omega), if_pos (by omega), hx]; rcases R with _ | ⟨r, _ | ⟨l, T⟩⟩ <;> rfl
  rw [HE.out]
  rw [hx] at c0 hW1 HSE
  rw [hx]
  clear HE HLESS HSF
  cases R with
  | nil =>
    have HPN := Lib.hid (apop_none HAK.out)
    go_enter Tryz.func113, Tryz.ntmps113
    go_wp2_with fail
    refine HPN.out.mono ?_
    rintro e w2 ⟨rfl, rfl⟩
    go_wp2
    exact ⟨rfl, rfl, HB1.out, HO1.out⟩
  | cons r T =>
    rw [List.length_cons] at hl
    have HPN := Lib.hid (apop_any HAK.out (by omega))
    go_enter Tryz.func113, Tryz.ntmps113
    go_wp2_with fail
    refine HPN.out.mono ?_
    rintro e w2 ⟨rfl, ha, hB, hO⟩
    have HA2 := Lib.hid (And.intro ha (And.intro (HB1.out.trans hB) (HO1.out.trans hO)))
    obtain ⟨d1, d2, d5, c0, ⟨c1, c2, c3, c4⟩, c5⟩ := HSE.out w2 _ ha hO
    have HO2 := Lib.hid hO
    clear ha hB hO
    cases T with
    | nil =>
      have HPM := Lib.hid (apop_none HA2.out.1)
      go_wp2_with fail
      refine HPM.out.mono ?_
      rintro e w3 ⟨rfl, rfl⟩
      go_wp2
      exact ⟨rfl, rfl, HA2.out.2.1, HA2.out.2.2⟩
    | cons l T =>
      rw [List.length_cons] at hl
      have HPM := Lib.hid (apop_any HA2.out.1 (by omega))
      go_wp2_with fail
      refine HPM.out.mono ?_
      rintro e w3 ⟨rfl, ha, hB, hO⟩
      have HA3 := Lib.hid (And.intro ha (And.intro (HA2.out.2.1.trans hB) (HA2.out.2.2.trans hO)))
      obtain ⟨d1, d2, d5, c0, ⟨c1, c2, c3, c4⟩, c5⟩ := HSE.out w3 _ ha (HO2.out.trans hO)
      clear ha hB hO
      cases l <;> cases r
      · go_wp2_with fail
        refine (HP.out _ _ _ HA3.out.2.1 HA3.out.2.2 HA3.out.1 (by omega)).mono ?_
        rintro e w4 ⟨⟨rfl, ha, hB, hO⟩, _⟩
        go_wp2
        refine bodyPost_ret (results_none rfl _ _ _) rfl ?_
        exact ⟨rfl, ha, hB, hO⟩
      · go_wp2_with fail
        refine (HP.out _ _ _ HA3.out.2.1 HA3.out.2.2 HA3.out.1 (by omega)).mono ?_
        rintro e w4 ⟨⟨rfl, ha, hB, hO⟩, _⟩
        go_wp2
        refine bodyPost_ret (results_none rfl _ _ _) rfl ?_
        exact ⟨rfl, ha, hB, hO⟩
      · go_wp2_with fail
        refine (HP.out _ _ _ HA3.out.2.1 HA3.out.2.2 HA3.out.1 (by omega)).mono ?_
        rintro e w4 ⟨⟨rfl, ha, hB, hO⟩, _⟩
        go_wp2
        refine bodyPost_ret (results_none rfl _ _ _) rfl ?_
        exact ⟨rfl, ha, hB, hO⟩
      · go_wp2_with fail
        refine (HP.out _ _ _ HA3.out.2.1 HA3.out.2.2 HA3.out.1 (by omega)).mono ?_
        rintro e w4 ⟨⟨rfl, ha, hB, hO⟩, _⟩
        go_wp2
        refine bodyPost_ret (results_none rfl _ _ _) rfl ?_
        exact ⟨rfl, ha, hB, hO⟩

set_option maxRecDepth 100000 in
set_option maxHeartbeats 4000000 in
theorem astep_b18 {wb w : World} {b sb : Nat} {v0 v3 v4 : Value} {s : Sta} {R : List Bool} (h : AkW wb w b sb v0 v3 v4 s R) (hl : R.length ≤ 900) (x : Ins) (hx : x.op = 18) :
    Calls Tryz.prog 113 #[.pointer (some ⟨b, 0, none⟩), insV x] w (StepPost wb.heap.size w b v0 (.int .i64 s.opn) (.int .i64 s.dne) v3 v4 (lessF sb) (askS s x R)) := by
  unfold insV
  obtain ⟨W1, hW1⟩ : ∃ W1, w.alloc (.cells #[.int .i64 x.op, .int .i64 x.l.1, .int .i64 x.l.2, .int .i64 x.r.1, .int .i64 x.r.2, .int .i64 x.n, .int .i64 x.user] 37) = W1 := ⟨_, rfl⟩
  have hb1 : Below w.heap.size w W1 := by rw [← hW1]; exact (Below.refl _ w).alloc (Nat.le_refl _) _
  have hbw : Below wb.heap.size wb W1 := h.low.trans (hb1.mono h.low.size)
  have x1 : Blk W1 w.heap.size #[.int .i64 x.op, .int .i64 x.l.1, .int .i64 x.l.2, .int .i64 x.r.1, .int .i64 x.r.2, .int .i64 x.n, .int .i64 x.user] 37 := by rw [← hW1]; exact Blk.new _ _ _
  have hak : AkB wb.heap.size W1 b v0 (.int .i64 s.opn) (.int .i64 s.dne) v3 v4 (lessF sb) R := h.ak.keep hb1
  have hbb : b < w.heap.size := by obtain ⟨_, hb, _⟩ := h.ak; exact hb.lt
  have HB1 := Lib.hid (hb1.mono h.low.size)
  have HO1 := Lib.hid (OthK.of_below (b := b) hb1)
  have HP : Hid (∀ (W : World) (t : Bool) (Q : List Bool), Below wb.heap.size w W → OthK w W b → AkB wb.heap.size W b v0 (.int .i64 s.opn) (.int .i64 s.dne) v3 v4 (lessF sb) Q → Q.length ≤ 902 → Calls Tryz.prog 119 #[.pointer (some ⟨b, 0, none⟩), .bool t] W fun e w' => AkPost wb.heap.size w b v0 (.int .i64 s.opn) (.int .i64 s.dne) v3 v4 (lessF sb) (t :: Q) (.tuple #[]) e w' ∧ OthK W w' b) := by
    intro W t Q hW hO hA hQ
    refine (apush_any hA (by omega) t).mono ?_
    rintro e w' ⟨he, ha, hB, hO2⟩
    exact ⟨⟨he, ha, hW.trans hB, hO.trans hO2⟩, hO2⟩
  have HSE : Hid (∀ (W : World) (Q : List Bool), AkB wb.heap.size W b v0 (.int .i64 s.opn) (.int .i64 s.dne) v3 v4 (lessF sb) Q → OthK W1 W b → W.cell? ⟨b, 1, none⟩ = some (.int .i64 s.opn) ∧ W.cell? ⟨b, 2, none⟩ = some (.int .i64 s.dne) ∧ W.cell? ⟨b, 5, none⟩ = some (.func (.func 99) #[] #[.pointer (some ⟨sb, 0, none⟩)]) ∧ W.cell? ⟨w.heap.size, 0, none⟩ = some (.int .i64 x.op) ∧ (W.cell? ⟨w.heap.size, 1, none⟩ = some (.int .i64 x.l.1) ∧ W.cell? ⟨w.heap.size, 2, none⟩ = some (.int .i64 x.l.2) ∧ W.cell? ⟨w.heap.size, 3, none⟩ = some (.int .i64 x.r.1) ∧ W.cell? ⟨w.heap.size, 4, none⟩ = some (.int .i64 x.r.2)) ∧ W.cell? ⟨w.heap.size, 5, none⟩ = some (.int .i64 x.n)) := by
    intro W Q hA hO
    obtain ⟨rv, y, _, _⟩ := hA
    have y1 := hO _ _ _ (by omega) (by decide) x1
    exact ⟨y.cell rfl, y.cell rfl, y.cell rfl, y1.cell rfl, ⟨y1.cell rfl, y1.cell rfl, y1.cell rfl, y1.cell rfl⟩, y1.cell rfl⟩
  have HSF : Hid (∀ W, Below W1.heap.size W1 W → W.cell? ⟨b, 1, none⟩ = some (.int .i64 s.opn) ∧ W.cell? ⟨b, 2, none⟩ = some (.int .i64 s.dne) ∧ W.cell? ⟨b, 5, none⟩ = some (.func (.func 99) #[] #[.pointer (some ⟨sb, 0, none⟩)]) ∧ W.cell? ⟨w.heap.size, 0, none⟩ = some (.int .i64 x.op) ∧ (W.cell? ⟨w.heap.size, 1, none⟩ = some (.int .i64 x.l.1) ∧ W.cell? ⟨w.heap.size, 2, none⟩ = some (.int .i64 x.l.2) ∧ W.cell? ⟨w.heap.size, 3, none⟩ = some (.int .i64 x.r.1) ∧ W.cell? ⟨w.heap.size, 4, none⟩ = some (.int .i64 x.r.2)) ∧ W.cell? ⟨w.heap.size, 5, none⟩ = some (.int .i64 x.n)) := fun W hW => HSE.out W _ (hak.keep hW) (OthK.of_below hW)
  have HLESS : Hid (∀ W, Below W1.heap.size W1 W → Calls Tryz.prog 99 #[.agg #[.int .i64 x.l.1, .int .i64 x.l.2], .agg #[.int .i64 x.r.1, .int .i64 x.r.2], .pointer (some ⟨sb, 0, none⟩)] W (OrLost W (if (thereV s x.l && thereV s x.r) = true then some (.int .i64 (cmpI (valV s x.l) (valV s x.r))) else none))) := by
    intro W hW
    have q := hbw.trans (hW.mono hbw.size)
    exact less_any (h.st.below q) (h.box.keep q) x.l x.r
  have HAK := Lib.hid hak
  have HBW := Lib.hid hbw.size
  obtain ⟨d1, d2, d5, c0, ⟨c1, c2, c3, c4⟩, c5⟩ := HSF.out _ (Below.refl _ _)
  clear h hbw hak hb1 x1 hbb
  have HE : Hid (askS s x R = binR 18 R) := by unfold Hid askS; rw [if_neg (by omega), if_pos (by omega), hx]; rcases R with _ | ⟨r, _ | ⟨l, T⟩⟩ <;> rfl
  rw [HE.out]
  rw [hx] at c0 hW1 HSE
  rw [hx]
  clear HE HLESS HSF
  cases R with
  | nil =>
    have HPN := Lib.hid (apop_none HAK.out)
    go_enter Tryz.func113, Tryz.ntmps113
    go_wp2_with fail
    refine HPN.out.mono ?_
    rintro e w2 ⟨rfl, rfl⟩
    go_wp2
    exact ⟨rfl, rfl, HB1.out, HO1.out⟩
  | cons r T =>
    rw [List.length_cons] at hl
    have HPN := Lib.hid (apop_any HAK.out (by omega))
    go_enter Tryz.func113, Tryz.ntmps113
    go_wp2_with fail
    refine HPN.out.mono ?_
    rintro e w2 ⟨rfl, ha, hB, hO⟩
    have HA2 := Lib.hid (And.intro ha (And.intro (HB1.out.trans hB) (HO1.out.trans hO)))
    obtain ⟨d1, d2, d5, c0, ⟨c1, c2, c3, c4⟩, c5⟩ := HSE.out w2 _ ha hO
    have HO2 := Lib.hid hO
    clear ha hB hO
    cases T with
    | nil =>
      have HPM := Lib.hid (apop_none HA2.out.1)
      go_wp2_with fail
      refine HPM.out.mono ?_
      rintro e w3 ⟨rfl, rfl⟩
      go_wp2
      exact ⟨rfl, rfl, HA2.out.2.1, HA2.out.2.2⟩
    | cons l T =>
      rw [List.length_cons] at hl
      have HPM := Lib.hid (apop_any HA2.out.1 (by omega))
      go_wp2_with fail
      refine HPM.out.mono ?_
      rintro e w3 ⟨rfl, ha, hB, hO⟩
      have HA3 := Lib.hid (And.intro ha (And.intro (HA2.out.2.1.trans hB) (HA2.out.2.2.trans hO)))
      obtain ⟨d1, d2, d5, c0, ⟨c1, c2, c3, c4⟩, c5⟩ := HSE.out w3 _ ha (HO2.out.trans hO)
      clear ha hB hO
      cases l <;> cases r
      · go_wp2_with fail
        refine (HP.out _ _ _ HA3.out.2.1 HA3.out.2.2 HA3.out.1 (by omega)).mono ?_
        rintro e w4 ⟨⟨rfl, ha, hB, hO⟩, _⟩
        go_wp2
        refine bodyPost_ret (results_none rfl _ _ _) rfl ?_
        exact ⟨rfl, ha, hB, hO⟩
      · go_wp2_with fail
        refine (HP.out _ _ _ HA3.out.2.1 HA3.out.2.2 HA3.out.1 (by omega)).mono ?_
        rintro e w4 ⟨⟨rfl, ha, hB, hO⟩, _⟩
        go_wp2
        refine bodyPost_ret (results_none rfl _ _ _) rfl ?_
        exact ⟨rfl, ha, hB, hO⟩
      · go_wp2_with fail
        refine (HP.out _ _ _ HA3.out.2.1 HA3.out.2.2 HA3.out.1 (by omega)).mono ?_
        rintro e w4 ⟨⟨rfl, ha, hB, hO⟩, _⟩
        go_wp2
        refine bodyPost_ret (results_none rfl _ _ _) rfl ?_
        exact ⟨rfl, ha, hB, hO⟩
      · go_wp2_with fail
        refine (HP.out _ _ _ HA3.out.2.1 HA3.out.2.2 HA3.out.1 (by omega)).mono ?_
        rintro e w4 ⟨⟨rfl, ha, hB, hO⟩, _⟩
        go_wp2
        refine bodyPost_ret (results_none rfl _ _ _) rfl ?_
        exact ⟨rfl, ha, hB, hO⟩

set_option maxRecDepth 100000 in
set_option maxHeartbeats 4000000 in
theorem astep_bad {wb w : World} {b sb : Nat} {v0 v3 v4 : Value} {s : Sta} {R : List Bool} (h : AkW wb w b sb v0 v3 v4 s R) (_hl : R.length ≤ 900) (x : Ins) (hx : x.op < 1 ∨ (10 < x.op ∧ x.op < 15) ∨ 18 < x.op) :
    Calls Tryz.prog 113 #[.pointer (some ⟨b, 0, none⟩), insV x] w (StepPost wb.heap.size w b v0 (.int .i64 s.opn) (.int .i64 s.dne) v3 v4 (lessF sb) (askS s x R)) := by
  unfold insV
  obtain ⟨W1, hW1⟩ : ∃ W1, w.alloc (.cells #[.int .i64 x.op, .int .i64 x.l.1, .int .i64 x.l.2, .int .i64 x.r.1, .int .i64 x.r.2, .int .i64 x.n, .int .i64 x.user] 37) = W1 := ⟨_, rfl⟩
  have hb1 : Below w.heap.size w W1 := by rw [← hW1]; exact (Below.refl _ w).alloc (Nat.le_refl _) _
  have hbw : Below wb.heap.size wb W1 := h.low.trans (hb1.mono h.low.size)
  have x1 : Blk W1 w.heap.size #[.int .i64 x.op, .int .i64 x.l.1, .int .i64 x.l.2, .int .i64 x.r.1, .int .i64 x.r.2, .int .i64 x.n, .int .i64 x.user] 37 := by rw [← hW1]; exact Blk.new _ _ _
  have hak : AkB wb.heap.size W1 b v0 (.int .i64 s.opn) (.int .i64 s.dne) v3 v4 (lessF sb) R := h.ak.keep hb1
  have hbb : b < w.heap.size := by obtain ⟨_, hb, _⟩ := h.ak; exact hb.lt
  have HB1 := Lib.hid (hb1.mono h.low.size)
  have HO1 := Lib.hid (OthK.of_below (b := b) hb1)
  have HP : Hid (∀ (W : World) (t : Bool) (Q : List Bool), Below wb.heap.size w W → OthK w W b → AkB wb.heap.size W b v0 (.int .i64 s.opn) (.int .i64 s.dne) v3 v4 (lessF sb) Q → Q.length ≤ 902 → Calls Tryz.prog 119 #[.pointer (some ⟨b, 0, none⟩), .bool t] W fun e w' => AkPost wb.heap.size w b v0 (.int .i64 s.opn) (.int .i64 s.dne) v3 v4 (lessF sb) (t :: Q) (.tuple #[]) e w' ∧ OthK W w' b) := by
    intro W t Q hW hO hA hQ
    refine (apush_any hA (by omega) t).mono ?_
    rintro e w' ⟨he, ha, hB, hO2⟩
    exact ⟨⟨he, ha, hW.trans hB, hO.trans hO2⟩, hO2⟩
  have HSE : Hid (∀ (W : World) (Q : List Bool), AkB wb.heap.size W b v0 (.int .i64 s.opn) (.int .i64 s.dne) v3 v4 (lessF sb) Q → OthK W1 W b → W.cell? ⟨b, 1, none⟩ = some (.int .i64 s.opn) ∧ W.cell? ⟨b, 2, none⟩ = some (.int .i64 s.dne) ∧ W.cell? ⟨b, 5, none⟩ = some (.func (.func 99) #[] #[.pointer (some ⟨sb, 0, none⟩)]) ∧ W.cell? ⟨w.heap.size, 0, none⟩ = some (.int .i64 x.op) ∧ (W.cell? ⟨w.heap.size, 1, none⟩ = some (.int .i64 x.l.1) ∧ W.cell? ⟨w.heap.size, 2, none⟩ = some (.int .i64 x.l.2) ∧ W.cell? ⟨w.heap.size, 3, none⟩ = some (.int .i64 x.r.1) ∧ W.cell? ⟨w.heap.size, 4, none⟩ = some (.int .i64 x.r.2)) ∧ W.cell? ⟨w.heap.size, 5, none⟩ = some (.int .i64 x.n)) := by
    intro W Q hA hO
    obtain ⟨rv, y, _, _⟩ := hA
    have y1 := hO _ _ _ (by omega) (by decide) x1
    exact ⟨y.cell rfl, y.cell rfl, y.cell rfl, y1.cell rfl, ⟨y1.cell rfl, y1.cell rfl, y1.cell rfl, y1.cell rfl⟩, y1.cell rfl⟩
  have HSF : Hid (∀ W, Below W1.heap.size W1 W → W.cell? ⟨b, 1, none⟩ = some (.int .i64 s.opn) ∧ W.cell? ⟨b, 2, none⟩ = some (.int .i64 s.dne) ∧ W.cell? ⟨b, 5, none⟩ = some (.func (.func 99) #[] #[.pointer (some ⟨sb, 0, none⟩)]) ∧ W.cell? ⟨w.heap.size, 0, none⟩ = some (.int .i64 x.op) ∧ (W.cell? ⟨w.heap.size, 1, none⟩ = some (.int .i64 x.l.1) ∧ W.cell? ⟨w.heap.size, 2, none⟩ = some (.int .i64 x.l.2) ∧ W.cell? ⟨w.heap.size, 3, none⟩ = some (.int .i64 x.r.1) ∧ W.cell? ⟨w.heap.size, 4, none⟩ = some (.int .i64 x.r.2)) ∧ W.cell? ⟨w.heap.size, 5, none⟩ = some (.int .i64 x.n)) := fun W hW => HSE.out W _ (hak.keep hW) (OthK.of_below hW)
  have HLESS : Hid (∀ W, Below W1.heap.size W1 W → Calls Tryz.prog 99 #[.agg #[.int .i64 x.l.1, .int .i64 x.l.2], .agg #[.int .i64 x.r.1, .int .i64 x.r.2], .pointer (some ⟨sb, 0, none⟩)] W (OrLost W (if (thereV s x.l && thereV s x.r) = true then some (.int .i64 (cmpI (valV s x.l) (valV s x.r))) else none))) := by
    intro W hW
    have q := hbw.trans (hW.mono hbw.size)
    exact less_any (h.st.below q) (h.box.keep q) x.l x.r
  have HAK := Lib.hid hak
  have HBW := Lib.hid hbw.size
  obtain ⟨d1, d2, d5, c0, ⟨c1, c2, c3, c4⟩, c5⟩ := HSF.out _ (Below.refl _ _)
  clear h hbw hak hb1 x1 hbb
  rw [askS_none (by omega) (by omega) (by omega) (by omega) (by omega) (by omega) (by omega)]
  have n1 : (x.op == 1) = false := by rw [beq_eq_false_iff_ne]; omega
  have n2 : (x.op == 2) = false := by rw [beq_eq_false_iff_ne]; omega
  have n3 : (x.op == 3) = false := by rw [beq_eq_false_iff_ne]; omega
  have n4 : (x.op == 4) = false := by rw [beq_eq_false_iff_ne]; omega
  have n5 : (x.op == 5) = false := by rw [beq_eq_false_iff_ne]; omega
  have n6 : (x.op == 6) = false := by rw [beq_eq_false_iff_ne]; omega
  have n7 : (x.op == 7) = false := by rw [beq_eq_false_iff_ne]; omega
  have n8 : (x.op == 8) = false := by rw [beq_eq_false_iff_ne]; omega
  have n9 : (x.op == 9) = false := by rw [beq_eq_false_iff_ne]; omega
  have n10 : (x.op == 10) = false := by rw [beq_eq_false_iff_ne]; omega
  have n15 : (x.op == 15) = false := by rw [beq_eq_false_iff_ne]; omega
  have n16 : (x.op == 16) = false := by rw [beq_eq_false_iff_ne]; omega
  have n17 : (x.op == 17) = false := by rw [beq_eq_false_iff_ne]; omega
  have n18 : (x.op == 18) = false := by rw [beq_eq_false_iff_ne]; omega
  clear HLESS HSE HSF hx HP
  go_enter Tryz.func113, Tryz.ntmps113
  go_wp2
  exact ⟨rfl, rfl, HB1.out, HO1.out⟩
end Go.Proofs.YtadjnfpomjopkaaGreat
