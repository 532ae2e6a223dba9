/- Contracts of the formulas' reader: formula, and so whatever is read at whatever depth. Contract of cond.Read. -/
import Derived.Test.YthhjepgcbfmfeaaGreatDoorSb20

namespace Go.Proofs.YthhjepgcbfmfeaaGreatDoor
open Go.RowKit

/-- a block of one cell: a captured variable -/
def OnB (w : World) (k : Nat) (v : Value) (t : TypeId) : Prop := w.heap[k]? = some (.cells #[v] t (0, 0))
theorem OnB.c {w : World} {k : Nat} {v : Value} {t : TypeId} (h : OnB w k v t) : w.cell? ⟨k, 0, none⟩ = some v := by
  unfold OnB at h; simp [World.cell?, h]
theorem OnB.lt {w : World} {k : Nat} {v : Value} {t : TypeId} (h : OnB w k v t) : k < w.heap.size := (Array.getElem?_eq_some_iff.1 h).1
theorem OnB.kept {w w' : World} {b k : Nat} {v : Value} {t : TypeId} (h : OnB w k v t) (ht : Lib.OthersKept 39 (some b) w w') (hkb : k ≠ b) (hne : t ≠ 39) : OnB w' k v t :=
  ht k _ h (fun e => hkb (Option.some.inj e)) (fun c fz e => by simp at e; exact hne e.2.1)
theorem OnB.alloc {w : World} {k : Nat} {v : Value} {t : TypeId} (h : OnB w k v t) (o : Obj) : OnB (w.alloc o) k v t := (Below.heap_alloc _ _ _ h.lt).trans h

set_option maxHeartbeats 1000000 in
theorem fInner_any (n : Nat) (hs : SignOK n) (p1 p2 : Nat) (d : Int) (hd : d = 25 - (n : Int)) {w : World} {B b : Nat} {lv : Value} {T : List Tk} {prop : Bool} (h1 : OnB w p1 (.pointer (some ⟨b, 0, none⟩)) 74) (h2 : OnB w p2 (.int .i64 d) 3) (hn1 : p1 ≠ b) (hn2 : p2 ≠ b) (hB : B ≤ w.heap.size) :
    OneOK 44 #[.pointer (some ⟨p1, 0, none⟩), .pointer (some ⟨p2, 0, none⟩)] w B b lv T prop (bothP T prop n).1 := by
  intro w' ov O l c i hk hb h hlo hhi hO
  have c1 := (h1.kept hk hn1 (by decide)).c
  have c2 := (h2.kept hk hn2 (by decide)).c
  have HS := Lib.hid (hs w' B b lv T i prop ov O l c d h (Nat.le_trans hB hb.size) hlo hhi hO hd)
  clear h h1 h2 hd hs hk hb
  go_enter Tryz.func44, Tryz.ntmps44
  go_wp2_with fail
  refine HS.out.mono ?_
  rintro e w1 hres
  have HR := Lib.hid hres
  obtain ⟨q, rfl⟩ := hres.val
  clear hres
  go_wp2
  go_ret
  exact HR.out

set_option maxHeartbeats 1000000 in
theorem fOuter_any (n : Nat) (hs : SignOK n) (p1 p2 : Nat) (d : Int) (hd : d = 25 - (n : Int)) {w : World} {B b : Nat} {lv : Value} {T : List Tk} {prop : Bool} (h1 : OnB w p1 (.pointer (some ⟨b, 0, none⟩)) 74) (h2 : OnB w p2 (.int .i64 d) 3) (hn1 : p1 ≠ b) (hn2 : p2 ≠ b) (hB : B ≤ w.heap.size) :
    OneOK 43 #[.pointer (some ⟨p1, 0, none⟩), .pointer (some ⟨p2, 0, none⟩)] w B b lv T prop (rowsP T (bothP T prop n).1 wAnd 16) := by
  intro w' ov O l c i hk hb h hlo hhi hO
  have k1 := h1.kept hk hn1 (by decide)
  have k2 := h2.kept hk hn2 (by decide)
  have c1 := k1.c
  have c2 := k2.c
  have HI := Lib.hid (fInner_any n hs p1 p2 d hd (lv := lv) (T := T) (prop := prop) k1 k2 hn1 hn2 (Nat.le_trans hB hb.size))
  have HS := Lib.hid (rowAnd_any p1 p2 (bothP T prop n).1 (both_good T prop n).1 h (Nat.le_trans hB hb.size) hlo hhi hO d wAnd 16 HI.out)
  clear h h1 h2 hd hs hk hb k1 k2 HI
  go_enter Tryz.func43, Tryz.ntmps43
  go_wp2_with fail
  refine HS.out.mono ?_
  rintro e w1 hres
  have HR := Lib.hid hres
  obtain ⟨q, rfl⟩ := hres.val
  clear hres
  go_wp2
  go_ret
  exact HR.out

set_option maxRecDepth 100000 in
set_option maxHeartbeats 4000000 in
theorem form_any (n : Nat) (hs : SignOK n) (hf : ∀ m, n = m + 1 → FormOK m) (hn : n ≤ 25) : FormOK n := by
  intro w B b lv T i prop ov O line col d h hB hlo hhi hO hd
  have hbl := h.lt
  have hTl := h.len
  have HTOP : Hid ((bothP T prop n).2 i = formP T (bothP T prop n).1 (bothP T prop (n - 1)).2 i) := by
    cases n with
    | zero => rfl
    | succ m => rfl
  rw [HTOP.out]
  have hg := rowsP_good (rowsP_good (both_good T prop n).1 wAnd 16) wOr 17
  have HC := Lib.hid (((CTook.of_rd h).alloc hB (.cells #[.pointer (some ⟨b, 0, none⟩)] 74)).alloc hB (.cells #[.int .i64 d] 3))
  have k1 : OnB ((w.alloc (.cells #[.pointer (some ⟨b, 0, none⟩)] 74)).alloc (.cells #[.int .i64 d] 3)) w.heap.size (.pointer (some ⟨b, 0, none⟩)) 74 := OnB.alloc (heap_alloc_new w _) _
  have k2 : OnB ((w.alloc (.cells #[.pointer (some ⟨b, 0, none⟩)] 74)).alloc (.cells #[.int .i64 d] 3)) (w.heap.size + 1) (.int .i64 d) 3 := heap_at_size _ _ _ (by simp)
  have HO := fOuter_any n hs w.heap.size (w.heap.size + 1) d hd (lv := lv) (T := T) (prop := prop) k1 k2 (by omega) (by omega) (HC.out.size hB)
  have HROW := Lib.hid (rowOr_any w.heap.size (w.heap.size + 1) (rowsP T (bothP T prop n).1 wAnd 16) (rowsP_good (both_good T prop n).1 wAnd 16) HC.out.rd (HC.out.size hB) hlo hhi hO d wOr 17 HO)
  have K1 := Lib.hid k1; have K2 := Lib.hid k2
  have hd0 : 0 ≤ d := by omega
  have hd1 : d ≤ 25 := by omega
  clear h HO k1 k2 hs HTOP
  cases hp : rowsP T (rowsP T (bothP T prop n).1 wAnd 16) wOr 17 i with
  | bad er l c =>
    have HU : Hid (formP T (bothP T prop n).1 (bothP T prop (n - 1)).2 i = .bad er l c) := by unfold Hid formP; rw [also_of_bad hp]
    have HE := Lib.hid hp
    clear hp hd hf hg
    go_enter Tryz.func27, Tryz.ntmps27
    go_wp2_with fail
    refine HROW.out.mono ?_
    rw [HE.out]
    rintro e w1 ⟨rfl, ov1, O1, i1, ht⟩
    have HF := Lib.hid (HC.out.trans ht)
    clear ht
    go_wp2
    go_ret
    exact CRes.bad HU.out rfl HF.out
  | ok o a =>
    have hga := hg _ _ _ hp
    obtain ⟨m, rfl⟩ : ∃ m, n = m + 1 := by
      cases n with
      | zero =>
        have h0 : badP T i 5 = PR.ok o a := hp
        cases h0
      | succ m => exact ⟨m, rfl⟩
    have HFO := Lib.hid (hf m rfl)
    have HDN := Lib.hid (show d + 1 = 25 - (m : Int) by omega)
    have HG := Lib.hid (both_good T prop m).2
    obtain ⟨form, hform⟩ : ∃ f, (bothP T prop m).2 = f := ⟨_, rfl⟩
    have HFM := Lib.hid hform
    have HU : Hid (formP T (bothP T prop (m + 1)).1 (bothP T prop (m + 1 - 1)).2 i = if isTk T a 2 wImplies then (form (a + 1)).also fun o2 b => .ok (o ++ o2 ++ [item 18 (tkAt T a)]) b else .ok o a) := by
      unfold Hid formP; rw [also_of_ok hp, Nat.add_sub_cancel, hform]
    unfold Hid at HG
    rw [hform] at HG
    have HG := Lib.hid HG
    have HE := Lib.hid hp
    obtain ⟨x, hx⟩ : ∃ x, tkAt T a = x := ⟨_, rfl⟩
    have HX := Lib.hid hx
    obtain ⟨q, hq⟩ : ∃ q, isTk T a 2 wImplies = q := ⟨_, rfl⟩
    have HQ := Lib.hid hq
    unfold Hid at HU
    rw [hx, hq] at HU
    have HU := Lib.hid HU
    have hfd : ∀ w : World, (Instr.field 54 (.agg #[.int .i64 x.kind, .string x.text, .int .i64 x.num, .int .i64 x.line, .int .i64 x.col]) 3).run Tryz.prog w = .ok (.agg #[.int .i64 x.line, .int .i64 x.col]) w := fun _ => by kernel_rfl
    have hOa : ((O ++ o).length : Int) ≤ a := by rw [List.length_append]; omega
    have HOA := Lib.hid hOa
    clear hp hd hf hg hform hx hq hn hOa
    go_enter Tryz.func27, Tryz.ntmps27
    go_wp2_with fail
    refine HROW.out.mono ?_
    rw [HE.out]
    rintro e w1 ⟨rfl, ov1, l1, c1, ht⟩
    have HT := Lib.hid (HC.out.trans ht)
    have hk1 := K1.out.kept ht.kept (by omega) (by decide)
    have hk2 := K2.out.kept ht.kept (by omega) (by decide)
    have s1 := hk1.c
    have sl := hk1.lt
    have J1 := Lib.hid hk1; have J2 := Lib.hid hk2
    clear ht hk1 hk2
    go_wp2_with fail
    refine (now_any HT.out.rd).mono ?_
    rintro e wa ⟨rfl, hba⟩
    rw [HX.out]
    unfold tokV
    have HC1 := Lib.hid ((HT.out.then hba hB).alloc hB (.cells #[.int .i64 x.line, .int .i64 x.col] 29))
    have HP1 := Lib.hid (show PsB (wa.alloc (.cells #[.int .i64 x.line, .int .i64 x.col] 29)) wa.heap.size x.line x.col from heap_alloc_new wa _)
    have ha1 : OnB wa _ _ _ := (hba.block _ J1.out.lt).trans J1.out
    have ha2 : OnB wa _ _ _ := (hba.block _ J2.out.lt).trans J2.out
    have A1 := Lib.hid (ha1.alloc (.cells #[.int .i64 x.line, .int .i64 x.col] 29))
    have A2 := Lib.hid (ha2.alloc (.cells #[.int .i64 x.line, .int .i64 x.col] 29))
    have s2 := ha1.c
    have sl2 := ha1.lt
    have hbs := HC1.out.rd.lt
    have hbw := hba.size
    have hbz := HT.out.rd.lt
    clear hba ha1 ha2
    go_wp2_with fail
    refine (ctake_any HC1.out.rd (HC1.out.size hB) 2 _ (by omega) (by omega)).mono ?_
    rw [show isTk T a 2 ⟨#[105, 109, 112, 108, 105, 101, 115]⟩ = q from HQ.out]
    rintro e wb ⟨rfl, hcb⟩
    cases q
    · have HF := Lib.hid (HC1.out.trans hcb)
      clear hcb
      go_wp2
      go_ret
      exact CRes.ok HU.out rfl HF.out
    · have hin := isTk_in HQ.out (by decide)
      have HF1 := Lib.hid (show CTook w wb B b lv T (a + 1) prop ov1 (O ++ o) 0 l1 c1 from HC1.out.trans hcb)
      have HPB := Lib.hid (HP1.out.kept hcb.kept (by omega))
      have B1 := Lib.hid (A1.out.kept hcb.kept (by omega) (by decide))
      have b2 := A2.out.kept hcb.kept (by omega) (by decide)
      have s3 := B1.out.c
      have s4 := b2.c
      clear hcb b2
      have HU : Hid (formP T (bothP T prop (m + 1)).1 (bothP T prop (m + 1 - 1)).2 i = (form (a + 1)).also fun o2 b => .ok (o ++ o2 ++ [item 18 x]) b) := by
        have := HU.out
        rw [if_pos rfl] at this
        exact this
      cases hp2 : form (a + 1) with
      | bad er l c =>
        have HE2 := Lib.hid hp2
        clear hp2
        go_wp2_with fail
        refine (HFO.out _ B b lv T (a + 1) prop ov1 (O ++ o) l1 c1 (d + 1) HF1.out.rd (HF1.out.size hB) (by omega) (by omega) (by have := HOA.out; omega) HDN.out).mono ?_
        rw [HFM.out, HE2.out]
        rintro e w5 ⟨rfl, ov5, O5, i5, ht⟩
        have HF := Lib.hid (HF1.out.trans ht)
        clear ht
        go_wp2
        go_ret
        exact CRes.bad (HU.out.trans (also_of_bad HE2.out)) rfl HF.out
      | ok o2 a2 =>
        have hg2 := HG.out _ _ _ hp2
        have HE2 := Lib.hid hp2
        clear hp2
        go_wp2_with fail
        refine (HFO.out _ B b lv T (a + 1) prop ov1 (O ++ o) l1 c1 (d + 1) HF1.out.rd (HF1.out.size hB) (by omega) (by omega) (by have := HOA.out; omega) HDN.out).mono ?_
        rw [HFM.out, HE2.out]
        rintro e w5 ⟨rfl, ov5, l5, c5, ht⟩
        have HC5 := Lib.hid (HF1.out.trans ht)
        have hp5 := HPB.out.kept ht.kept (by omega)
        have hb5 := B1.out.kept ht.kept (by omega) (by decide)
        obtain ⟨q0, q1⟩ := hp5.facts
        have s5 := hb5.c
        have hO5 : ((O ++ o) ++ o2).length ≤ 1000000 := by have := HOA.out; rw [List.length_append]; omega
        clear ht hp5 hb5
        go_wp2_with fail
        refine (put_any HC5.out.rd (HC5.out.size hB) hO5 _ _ _ _ _ _ _ _ _ _ _).mono ?_
        rintro e w7 ⟨rfl, ov7, hp⟩
        have HF := Lib.hid (show CTook w w7 B b lv T a2 prop ov7 (O ++ (o ++ o2 ++ [item 18 x])) 0 l5 c5 by
          have := HC5.out.trans hp
          rw [List.append_assoc, List.append_assoc] at this
          rw [List.append_assoc]; exact this)
        clear hp
        go_wp2
        go_ret
        exact CRes.ok (HU.out.trans (also_of_ok HE2.out)) rfl HF.out

/-- whatever is read at whatever depth -/
theorem both_any : ∀ n, n ≤ 25 → SignOK n ∧ FormOK n
  | 0, _ => ⟨sign_zero, form_any 0 sign_zero (fun m h => by omega) (by omega)⟩
  | n + 1, h => by
    have ih := both_any n (by omega)
    have hs := sign_succ n (by omega) ih.2 ih.1
    exact ⟨hs, form_any (n + 1) hs (fun m e => by cases e; exact ih.2) h⟩

end Go.Proofs.YthhjepgcbfmfeaaGreatDoor

namespace Go.Proofs.YthhjepgcbfmfeaaGreatDoor
open Go.RowKit

/-- what Read says -/
def readP (T : List Tk) (prop : Bool) (i : Int) : PR :=
  match (bothP T prop 25).2 i with
  | .ok o a => if 64 < o.length then .bad 3 (tkAt T i).line (tkAt T i).col else .ok o a
  | .bad e l c => .bad e l c

def ReadPost (w : World) (p : PR) (e : Ending) (w' : World) : Prop :=
  match p with
  | .ok o a => ∃ v, e = .returned (.tuple #[v, .int .i64 a, .agg #[.int .i64 0, .int .i64 0, .int .i64 0]]) ∧ w'.ownsRow w.heap.size 39 9 v o.length (itFlat o) ∧ Below w.heap.size w w'
  | .bad er l c => e = .returned (.tuple #[.slice none 0 0, .int .i64 0, .agg #[.int .i64 er, .int .i64 l, .int .i64 c]]) ∧ Below w.heap.size w w'

/-- a fault in a block of its own -/
def FtB (w : World) (b : Nat) (e l c : Int) : Prop := w.heap[b]? = some (.cells #[.int .i64 e, .int .i64 l, .int .i64 c] 31 (0, 0))
theorem FtB.facts {w : World} {b : Nat} {e l c : Int} (h : FtB w b e l c) : w.cell? ⟨b, 0, none⟩ = some (.int .i64 e) ∧ w.cell? ⟨b, 1, none⟩ = some (.int .i64 l) ∧ w.cell? ⟨b, 2, none⟩ = some (.int .i64 c) := by
  unfold FtB at h
  refine ⟨?_, ?_, ?_⟩ <;> simp [World.cell?, h]
theorem FtB.free {w : World} {b : Nat} {e l c : Int} (h : FtB w b e l c) : w.frozen? ⟨b, 0, none⟩ = false ∧ w.frozen? ⟨b, 1, none⟩ = false ∧ w.frozen? ⟨b, 2, none⟩ = false := by
  unfold FtB at h
  refine ⟨?_, ?_, ?_⟩ <;> simp [World.frozen?, h]
theorem FtB.lt {w : World} {b : Nat} {e l c : Int} (h : FtB w b e l c) : b < w.heap.size := (Array.getElem?_eq_some_iff.1 h).1
theorem FtB.below {w w' : World} {b : Nat} {e l c : Int} (h : FtB w b e l c) (hb : Below w.heap.size w w') : FtB w' b e l c := (hb.block b h.lt).trans h
theorem FtB.alloc {w : World} {b : Nat} {e l c : Int} (h : FtB w b e l c) (o : Obj) : FtB (w.alloc o) b e l c := (Below.heap_alloc _ _ _ h.lt).trans h
theorem FtB.drew {w : World} {b : Nat} {e l c : Int} (h : FtB w b e l c) : FtB w.drew b e l c := h
theorem FtB.kept {w w' : World} {b k : Nat} {e l c : Int} (h : FtB w k e l c) (ht : Lib.OthersKept 39 (some b) w w') (hkb : k ≠ b) : FtB w' k e l c :=
  ht k _ h (fun e => hkb (Option.some.inj e)) (fun c fz e => by simp at e)
theorem FtB.stored {w : World} {b : Nat} {e l c : Int} (h : FtB w b e l c) (e2 l2 c2 : Int) : FtB (((w.setCell ⟨b, 0, none⟩ (.int .i64 e2)).setCell ⟨b, 1, none⟩ (.int .i64 l2)).setCell ⟨b, 2, none⟩ (.int .i64 c2)) b e2 l2 c2 :=
  heap_setCell_same _ b 2 _ _ (.int .i64 c2) (heap_setCell_same _ b 1 _ _ (.int .i64 l2) (heap_setCell_same w b 0 _ _ (.int .i64 e2) h))
theorem FtB.row {w : World} {b base n : Nat} {t : TypeId} {sz : Nat} {v : Value} {xs : List Value} {e l c : Int} (h : FtB w b e l c) (hr : w.ownsRow base t sz v n xs) (ht : 31 ≠ t) (e2 l2 c2 : Int) :
    (((w.setCell ⟨b, 0, none⟩ (.int .i64 e2)).setCell ⟨b, 1, none⟩ (.int .i64 l2)).setCell ⟨b, 2, none⟩ (.int .i64 c2)).ownsRow base t sz v n xs :=
  row_store (row_store (row_store hr h ht _ _) (heap_setCell_same w b 0 _ _ (.int .i64 e2) h) ht _ _) (heap_setCell_same _ b 1 _ _ (.int .i64 l2) (heap_setCell_same w b 0 _ _ (.int .i64 e2) h)) ht _ _
theorem FtB.over {w : World} {b k : Nat} {e l c : Int} (h : FtB w b e l c) (hne : b ≠ k) (u0 u1 u2 : Value) : FtB (((w.setCell ⟨k, 0, none⟩ u0).setCell ⟨k, 1, none⟩ u1).setCell ⟨k, 2, none⟩ u2) b e l c := by
  unfold FtB
  rw [Below.heap_setCell _ _ _ _ hne, Below.heap_setCell _ _ _ _ hne, Below.heap_setCell _ _ _ _ hne]
  exact h
theorem below_fault {w0 w : World} {B k : Nat} (h : Below B w0 w) (hk : B ≤ k) (a b c : Value) : Below B w0 (((w.setCell ⟨k, 0, none⟩ a).setCell ⟨k, 1, none⟩ b).setCell ⟨k, 2, none⟩ c) :=
  ((h.setCell (p := ⟨k, 0, none⟩) hk _).setCell (p := ⟨k, 1, none⟩) hk _).setCell (p := ⟨k, 2, none⟩) hk _

set_option maxRecDepth 100000 in
set_option maxHeartbeats 2000000 in
theorem read_any {w : World} {v : Value} {T : List Tk} (hT : TkIn w w.heap.size v T) (i : Int) (prop : Bool) (hlo : -9223372036854775808 ≤ i) (hhi : i ≤ 1000000) :
    Calls Tryz.prog 14 #[v, .int .i64 i, .bool prop] w (ReadPost w (readP T prop i)) := by
  have hT0 := hT
  obtain ⟨ad, cap, hv, _, _⟩ := hT
  subst hv
  have hb0 : Below w.heap.size w ((w.alloc (.cells #[.int .i64 0, .int .i64 0, .int .i64 0] 31)).alloc (.cells #[.slice ad T.length cap, .int .i64 i, .bool prop, .slice none 0 0, .int .i64 0, .int .i64 0, .int .i64 0] 76)) := ((Below.refl _ w).alloc (Nat.le_refl _) _).alloc (by simp) _
  have hc : Cr ((w.alloc (.cells #[.int .i64 0, .int .i64 0, .int .i64 0] 31)).alloc (.cells #[.slice ad T.length cap, .int .i64 i, .bool prop, .slice none 0 0, .int .i64 0, .int .i64 0, .int .i64 0] 76)) w.heap.size (w.heap.size + 1) (.slice ad T.length cap) T i prop (.slice none 0 0) [] 0 0 0 :=
    ⟨heap_at_size _ _ _ (by simp), Nat.le_succ _, TkIn.below hT0 hb0, World.ownsRow_nil _ _ _ _⟩
  have hfb : FtB ((w.alloc (.cells #[.int .i64 0, .int .i64 0, .int .i64 0] 31)).alloc (.cells #[.slice ad T.length cap, .int .i64 i, .bool prop, .slice none 0 0, .int .i64 0, .int .i64 0, .int .i64 0] 76)) w.heap.size 0 0 0 := FtB.alloc (heap_alloc_new w _) _
  have hBs : w.heap.size ≤ ((w.alloc (.cells #[.int .i64 0, .int .i64 0, .int .i64 0] 31)).alloc (.cells #[.slice ad T.length cap, .int .i64 i, .bool prop, .slice none 0 0, .int .i64 0, .int .i64 0, .int .i64 0] 76)).heap.size := by simp; omega
  obtain ⟨x, hx⟩ : ∃ x, tkAt T i = x := ⟨_, rfl⟩
  have HX := Lib.hid hx
  have HC := Lib.hid hc; have HFB := Lib.hid hfb; have HB0 := Lib.hid hb0; have HBS := Lib.hid hBs
  have hfd : ∀ w : World, (Instr.field 54 (.agg #[.int .i64 x.kind, .string x.text, .int .i64 x.num, .int .i64 x.line, .int .i64 x.col]) 3).run Tryz.prog w = .ok (.agg #[.int .i64 x.line, .int .i64 x.col]) w := fun _ => by kernel_rfl
  clear hc hfb hb0 hBs hx
  cases hp : (bothP T prop 25).2 i with
  | bad er l c =>
    have HU : Hid (readP T prop i = .bad er l c) := by unfold Hid readP; rw [hp]
    have HE := Lib.hid hp
    clear hp
    go_enter Tryz.func14, Tryz.ntmps14
    go_wp2_with fail
    refine (now_any HC.out).mono ?_
    rintro e w1 ⟨rfl, hb1⟩
    rw [HX.out]
    unfold tokV
    have HC1 := Lib.hid (((CTook.of_rd HC.out).then hb1 HBS.out).alloc HBS.out (.cells #[.int .i64 x.line, .int .i64 x.col] 29))
    have HF1 := Lib.hid ((HFB.out.below hb1).alloc (.cells #[.int .i64 x.line, .int .i64 x.col] 29))
    clear hb1
    go_wp2_with fail
    refine ((both_any 25 (by omega)).2 _ w.heap.size (w.heap.size + 1) _ T i prop _ _ 0 0 0 HC1.out.rd (HC1.out.size HBS.out) hlo hhi (by simp; omega) (by omega)).mono ?_
    rw [HE.out]
    rintro e w3 ⟨rfl, ov3, O3, i3, ht⟩
    have hf3 := HF1.out.kept ht.kept (by omega)
    have HT := Lib.hid (HC1.out.trans ht)
    obtain ⟨_, _, _, _, c4, c5, c6⟩ := ht.rd.facts
    obtain ⟨q0, q1, q2⟩ := hf3.facts
    obtain ⟨z0, z1, z2⟩ := hf3.free
    have hBB := Lib.hid (HB0.out.trans (HT.out.low))
    clear ht hf3
    go_wp2
    go_region
    go_wp2
    refine bodyPost_ret (v := .tuple #[.slice none 0 0, .int .i64 0, .agg #[.int .i64 er, .int .i64 l, .int .i64 c]]) (by simp [results, Tryz.results14, go_sem, q0, q1, q2]) rfl ?_
    rw [HU.out]
    exact ⟨rfl, (below_fault hBB.out (Nat.le_refl _) _ _ _).drew⟩
  | ok o a =>
    have HE := Lib.hid hp
    by_cases h64 : 64 < o.length
    · have HU : Hid (readP T prop i = .bad 3 x.line x.col) := by unfold Hid readP; rw [hp]; dsimp only; rw [if_pos h64, HX.out]
      have hz64 : (64 : Int) < (o.length : Int) := by omega
      clear hp
      go_enter Tryz.func14, Tryz.ntmps14
      go_wp2_with fail
      refine (now_any HC.out).mono ?_
      rintro e w1 ⟨rfl, hb1⟩
      rw [HX.out]
      unfold tokV
      have HC1 := Lib.hid (((CTook.of_rd HC.out).then hb1 HBS.out).alloc HBS.out (.cells #[.int .i64 x.line, .int .i64 x.col] 29))
      have HF1 := Lib.hid ((HFB.out.below hb1).alloc (.cells #[.int .i64 x.line, .int .i64 x.col] 29))
      have HP1 := Lib.hid (show PsB (w1.alloc (.cells #[.int .i64 x.line, .int .i64 x.col] 29)) w1.heap.size x.line x.col from heap_alloc_new w1 _)
      have hs1 := hb1.size
      simp only [World.size_alloc] at hs1
      clear hb1
      go_wp2_with fail
      refine ((both_any 25 (by omega)).2 _ w.heap.size (w.heap.size + 1) _ T i prop _ _ 0 0 0 HC1.out.rd (HC1.out.size HBS.out) hlo hhi (by simp; omega) (by omega)).mono ?_
      rw [HE.out]
      rintro e w3 ⟨rfl, ov3, l3, c3, ht⟩
      have hf3 := HF1.out.kept ht.kept (by omega)
      have hp3 := HP1.out.kept ht.kept (by omega)
      have HT := Lib.hid (HC1.out.trans ht)
      obtain ⟨ad3, cap3, hov⟩ := owns_len ht.rd.out
      rw [List.nil_append] at hov
      obtain ⟨_, _, _, c3', _, _, _⟩ := ht.rd.facts
      rw [hov] at c3'
      obtain ⟨q0, q1, q2⟩ := hf3.facts
      obtain ⟨z0, z1, z2⟩ := hf3.free
      obtain ⟨p0, p1⟩ := hp3.facts
      have hBB := Lib.hid (HB0.out.trans (HT.out.low))
      clear ht hf3 hp3 hov
      go_wp2
      go_region
      go_wp2
      refine bodyPost_ret (v := .tuple #[.slice none 0 0, .int .i64 0, .agg #[.int .i64 3, .int .i64 x.line, .int .i64 x.col]]) (by simp [results, Tryz.results14, go_sem, q0, q1, q2]) rfl ?_
      rw [HU.out]
      exact ⟨rfl, (below_fault hBB.out (Nat.le_refl _) _ _ _).drew⟩
    · have HU : Hid (readP T prop i = .ok o a) := by unfold Hid readP; rw [hp]; dsimp only; rw [if_neg h64]
      have hz64 : ¬ (64 : Int) < (o.length : Int) := by omega
      clear hp
      go_enter Tryz.func14, Tryz.ntmps14
      go_wp2_with fail
      refine (now_any HC.out).mono ?_
      rintro e w1 ⟨rfl, hb1⟩
      rw [HX.out]
      unfold tokV
      have HC1 := Lib.hid (((CTook.of_rd HC.out).then hb1 HBS.out).alloc HBS.out (.cells #[.int .i64 x.line, .int .i64 x.col] 29))
      have HF1 := Lib.hid ((HFB.out.below hb1).alloc (.cells #[.int .i64 x.line, .int .i64 x.col] 29))
      clear hb1
      go_wp2_with fail
      refine ((both_any 25 (by omega)).2 _ w.heap.size (w.heap.size + 1) _ T i prop _ _ 0 0 0 HC1.out.rd (HC1.out.size HBS.out) hlo hhi (by simp; omega) (by omega)).mono ?_
      rw [HE.out]
      rintro e w3 ⟨rfl, ov3, l3, c3, ht⟩
      have hf3 := HF1.out.kept ht.kept (by omega)
      have HT := Lib.hid (HC1.out.trans ht)
      obtain ⟨ad3, cap3, hov⟩ := owns_len ht.rd.out
      rw [List.nil_append] at hov
      have HOW := Lib.hid (hf3.row ht.rd.out (by decide) 0 0 0)
      obtain ⟨_, c1', _, c3', _, _, _⟩ := ht.rd.facts
      subst hov
      obtain ⟨q0, q1, q2⟩ := hf3.facts
      obtain ⟨z0, z1, z2⟩ := hf3.free
      have hBB := Lib.hid (HB0.out.trans (HT.out.low))
      have hne : w.heap.size ≠ w.heap.size + 1 := by omega
      clear ht hf3
      go_wp2
      first
      | (go_region_held3 (fun w' => w'.cell? ⟨w.heap.size + 1, 3, none⟩ = some (.slice ad3 o.length cap3) ∧ w'.cell? ⟨w.heap.size + 1, 1, none⟩ = some (.int .i64 a))
          (first | go_keep | (refine ⟨?_, ?_⟩ <;> (first | assumption | go_keep)))
          (fail))
      | fail
      all_goals
        go_wp2
        refine bodyPost_ret (v := .tuple #[.slice ad3 o.length cap3, .int .i64 a, .agg #[.int .i64 0, .int .i64 0, .int .i64 0]]) (by simp [results, Tryz.results14, go_sem, q0, q1, q2]) rfl ?_
        rw [HU.out]
        exact ⟨_, rfl, HOW.out.drew, (below_fault hBB.out (Nat.le_refl _) _ _ _).drew⟩

end Go.Proofs.YthhjepgcbfmfeaaGreatDoor
