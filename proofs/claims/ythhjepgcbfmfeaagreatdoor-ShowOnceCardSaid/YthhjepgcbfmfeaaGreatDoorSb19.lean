/- Contract of the formulas' reader: row. Contracts of the formulas' reader: until, sign (printed by gen_sign.py). -/
import Derived.Test.YthhjepgcbfmfeaaGreatDoorSb18
import Derived.Test.YthhjepgcbfmfeaaGreatDoorSb12

namespace Go.Proofs.YthhjepgcbfmfeaaGreatDoor
open Go.RowKit

/-- a closure that reads what one says, in whatever world comes of w -/
def OneOK (fn : Nat) (caps : Array Value) (w : World) (B b : Nat) (lv : Value) (T : List Tk) (prop : Bool) (one : Int → PR) : Prop :=
  ∀ (w' : World) (ov : Value) (O : List It) (l c i : Int), Lib.OthersKept 39 (some b) w w' → Below B w w' → Cr w' B b lv T i prop ov O 0 l c → -9223372036854775808 ≤ i → i ≤ 1000000 → (O.length : Int) ≤ max i 0 →
    Calls Tryz.prog fn caps w' (CRes w' B b lv T prop O (one i))

def posOf (W : World) (b : Nat) : Nat := match W.cell? ⟨b, 1, none⟩ with
  | some (.int _ z) => z.toNat
  | _ => 0
theorem Cr.pos {w : World} {B b : Nat} {lv : Value} {T : List Tk} {i : Int} {prop : Bool} {ov : Value} {O : List It} {er line col : Int} (h : Cr w B b lv T i prop ov O er line col) : posOf w b = i.toNat := by
  unfold posOf; rw [h.facts.2.1]
theorem Cr.len {w : World} {B b : Nat} {lv : Value} {T : List Tk} {i : Int} {prop : Bool} {ov : Value} {O : List It} {er line col : Int} (h : Cr w B b lv T i prop ov O er line col) : T.length ≤ 1000000 := by
  obtain ⟨_, _, _, hl, _⟩ := h.tk; exact hl

set_option maxRecDepth 100000 in
set_option maxHeartbeats 4000000 in
theorem rowOr_any (p1 p2 : Nat) {w : World} {B b : Nat} {lv : Value} {T : List Tk} {i : Int} {prop : Bool} {ov : Value} {O : List It} {line col : Int} (one : Int → PR) (hgood : Good T one) (h : Cr w B b lv T i prop ov O 0 line col) (hB : B ≤ w.heap.size) (hlo : -9223372036854775808 ≤ i) (hhi : i ≤ 1000000) (hO : (O.length : Int) ≤ max i 0)
    (deep : Int) (wd : ByteArray) (op : Int) (hone : OneOK 43 #[.pointer (some ⟨p1, 0, none⟩), .pointer (some ⟨p2, 0, none⟩)] w B b lv T prop one) :
    Calls Tryz.prog 42 #[.pointer (some ⟨b, 0, none⟩), .int .i64 deep, .string wd, .int .i64 op, .func (.func 43) #[] #[.pointer (some ⟨p1, 0, none⟩), .pointer (some ⟨p2, 0, none⟩)]] w (CRes w B b lv T prop O (rowsP T one wd op i)) := by
  have HR := Lib.hid h
  have HF := Lib.hid hone
  have HG := Lib.hid hgood
  have hTl := h.len
  clear h hone hgood
  cases hp : one i with
  | bad er l c =>
    have HP : Hid (rowsP T one wd op i = .bad er l c) := by unfold Hid rowsP; rw [hp]; rfl
    have HQ := Lib.hid hp
    clear hp
    go_enter Tryz.func42, Tryz.ntmps42
    go_wp2_with fail
    refine (HF.out w ov O line col i (Lib.OthersKept.refl _ _ _) (Below.refl _ _) HR.out hlo hhi hO).mono ?_
    rw [HQ.out]
    rintro e w1 ⟨rfl, ov1, O1, i1, ht⟩
    have HT := Lib.hid ht
    clear ht
    go_wp2
    go_ret
    exact CRes.bad HP.out rfl HT.out
  | ok o a =>
    have hg := HG.out i o a hp
    have HP : Hid (rowsP T one wd op i = rowP T one wd op (T.length + 1) a o) := by unfold Hid rowsP; rw [hp]; rfl
    have HQ := Lib.hid hp
    clear hp
    go_enter Tryz.func42, Tryz.ntmps42
    go_wp2_with fail
    refine (HF.out w ov O line col i (Lib.OthersKept.refl _ _ _) (Below.refl _ _) HR.out hlo hhi hO).mono ?_
    rw [HQ.out]
    rintro e w1 ⟨rfl, ov1, l1, c1, ht⟩
    have HT := Lib.hid ht
    have hOa : ((O ++ o).length : Int) ≤ a := by rw [List.length_append]; omega
    have HOA := Lib.hid hOa
    clear ht hOa
    go_wp2
    go_loopw [11] (fun _ wr => ∃ (k : Nat) (j : Int) (out : List It) (ov2 : Value) (l2 c2 : Int), Hid (CTook w wr B b lv T j prop ov2 (O ++ out) 0 l2 c2 ∧ rowsP T one wd op i = rowP T one wd op k j out ∧ 1 ≤ j ∧ j ≤ T.length ∧ (T.length : Int) < j + k ∧ ((O ++ out).length : Int) ≤ j)) (fun _ wr => T.length + 1 - posOf wr b)
    case atStart => exact ⟨T.length + 1, a, o, ov1, l1, c1, HT.out, HP.out, by omega, by omega, by omega, HOA.out⟩
    case round =>
      clear HT HOA
      obtain ⟨k, j, out, ov2, l2, c2, HA⟩ := hrel
      obtain ⟨htk, hrow, hj1, hjT, hjk, hoj⟩ := HA.out
      have HTK := Lib.hid htk
      have HRW := Lib.hid hrow
      have HOJ := Lib.hid hoj
      have hpos := Lib.hid htk.rd.pos
      have hbl := htk.rd.lt
      have hBr := Nat.le_trans hB htk.low.size
      clear htk hrow hoj HA
      obtain ⟨x, hx⟩ : ∃ x, tkAt T j = x := ⟨_, rfl⟩
      have HX := Lib.hid hx
      have hfd : ∀ w : World, (Instr.field 54 (.agg #[.int .i64 x.kind, .string x.text, .int .i64 x.num, .int .i64 x.line, .int .i64 x.col]) 3).run Tryz.prog w = .ok (.agg #[.int .i64 x.line, .int .i64 x.col]) w := fun _ => by kernel_rfl
      obtain ⟨q, hq⟩ : ∃ q, isTk T j 2 wd = q := ⟨_, rfl⟩
      have HQ2 := Lib.hid hq
      clear hx hq
      go_wp2_with fail
      refine (now_any HTK.out.rd).mono ?_
      rintro e wa ⟨rfl, hba⟩
      rw [HX.out]
      unfold tokV
      have HC1 := Lib.hid ((HTK.out.then hba hB).alloc hB (.cells #[.int .i64 x.line, .int .i64 x.col] 29))
      have HP1 := Lib.hid (show PsB (wa.alloc (.cells #[.int .i64 x.line, .int .i64 x.col] 29)) wa.heap.size x.line x.col from heap_alloc_new wa _)
      have hbs := hba.size
      clear hba
      go_wp2_with fail
      refine (ctake_any HC1.out.rd (Nat.le_trans hB HC1.out.low.size) 2 wd (by omega) (by omega)).mono ?_
      rw [HQ2.out]
      rintro e wb ⟨rfl, hcb⟩
      cases q
      · have HF1 := Lib.hid (HC1.out.trans hcb)
        have HE : Hid (rowsP T one wd op i = .ok out j) := by
          unfold Hid
          rw [HRW.out]
          cases k with
          | zero => rfl
          | succ k => rw [rowP, HQ2.out]; rfl
        clear hcb
        go_wp2
        go_ret
        exact CRes.ok HE.out rfl HF1.out
      · have hin := isTk_in HQ2.out (by decide)
        obtain ⟨k, rfl⟩ : ∃ k', k = k' + 1 := ⟨k - 1, by omega⟩
        have HF1 := Lib.hid (show CTook w wb B b lv T (j + 1) prop ov2 (O ++ out) 0 l2 c2 from HC1.out.trans hcb)
        have hpb := HP1.out.kept hcb.kept (by omega)
        have HPB := Lib.hid hpb
        clear hcb hpb
        cases hp2 : one (j + 1) with
        | bad er l c =>
          have HE : Hid (rowsP T one wd op i = .bad er l c) := by unfold Hid; rw [HRW.out, rowP, HQ2.out, if_pos rfl, hp2]; rfl
          have HQ3 := Lib.hid hp2
          clear hp2
          go_wp2_with fail
          refine (HF.out wb ov2 (O ++ out) l2 c2 (j + 1) HF1.out.kept HF1.out.low HF1.out.rd (by omega) (by omega) (by have := HOJ.out; omega)).mono ?_
          rw [HQ3.out]
          rintro e wc ⟨rfl, ov3, O3, i3, htc⟩
          have HT := Lib.hid (HF1.out.trans htc)
          clear htc
          go_wp2
          go_ret
          exact CRes.bad HE.out rfl HT.out
        | ok o2 a2 =>
          have hg2 := HG.out _ _ _ hp2
          have HE : Hid (rowsP T one wd op i = rowP T one wd op k a2 (out ++ o2 ++ [item op x])) := by unfold Hid; rw [HRW.out, rowP, HQ2.out, if_pos rfl, hp2, HX.out]; rfl
          have HQ3 := Lib.hid hp2
          clear hp2
          go_wp2_with fail
          refine (HF.out wb ov2 (O ++ out) l2 c2 (j + 1) HF1.out.kept HF1.out.low HF1.out.rd (by omega) (by omega) (by have := HOJ.out; omega)).mono ?_
          rw [HQ3.out]
          rintro e wc ⟨rfl, ov3, l3, c3, htc⟩
          have hpc := HPB.out.kept htc.kept (by omega)
          obtain ⟨q0, q1⟩ := hpc.facts
          have hll : (((O ++ out) ++ o2).length : Int) ≤ a2 - 1 := by have := HOJ.out; rw [List.length_append]; omega
          have hLL := Lib.hid hll
          have HT := Lib.hid (HF1.out.trans htc)
          have hlx : ((O ++ out) ++ o2).length ≤ 1000000 := by omega
          clear htc hpc hll
          go_wp2_with fail
          refine (put_any HT.out.rd (Nat.le_trans hB HT.out.low.size) hlx _ _ _ _ _ _ _ _ _ _ _).mono ?_
          rintro e wd' ⟨rfl, ov4, hpd⟩
          have HFIN := Lib.hid (show CTook w wd' B b lv T a2 prop ov4 (O ++ (out ++ o2 ++ [item op x])) 0 l3 c3 by
            have := HT.out.trans hpd
            rw [List.append_assoc, List.append_assoc] at this
            rw [List.append_assoc]; exact this)
          have hpe := Lib.hid hpd.rd.pos
          clear hpd
          go_wp2
          go_roundw
          case rel =>
            refine ⟨k, a2, out ++ o2 ++ [item op x], ov4, l3, c3, HFIN.out, HE.out, by omega, by omega, by omega, ?_⟩
            have := hLL.out
            simp only [List.length_append, List.length_cons, List.length_nil] at this ⊢
            omega
          case measure =>
            rw [hpe.out, hpos.out]; omega

set_option maxRecDepth 100000 in
set_option maxHeartbeats 4000000 in
theorem rowAnd_any (p1 p2 : Nat) {w : World} {B b : Nat} {lv : Value} {T : List Tk} {i : Int} {prop : Bool} {ov : Value} {O : List It} {line col : Int} (one : Int → PR) (hgood : Good T one) (h : Cr w B b lv T i prop ov O 0 line col) (hB : B ≤ w.heap.size) (hlo : -9223372036854775808 ≤ i) (hhi : i ≤ 1000000) (hO : (O.length : Int) ≤ max i 0)
    (deep : Int) (wd : ByteArray) (op : Int) (hone : OneOK 44 #[.pointer (some ⟨p1, 0, none⟩), .pointer (some ⟨p2, 0, none⟩)] w B b lv T prop one) :
    Calls Tryz.prog 42 #[.pointer (some ⟨b, 0, none⟩), .int .i64 deep, .string wd, .int .i64 op, .func (.func 44) #[] #[.pointer (some ⟨p1, 0, none⟩), .pointer (some ⟨p2, 0, none⟩)]] w (CRes w B b lv T prop O (rowsP T one wd op i)) := by
  have HR := Lib.hid h
  have HF := Lib.hid hone
  have HG := Lib.hid hgood
  have hTl := h.len
  clear h hone hgood
  cases hp : one i with
  | bad er l c =>
    have HP : Hid (rowsP T one wd op i = .bad er l c) := by unfold Hid rowsP; rw [hp]; rfl
    have HQ := Lib.hid hp
    clear hp
    go_enter Tryz.func42, Tryz.ntmps42
    go_wp2_with fail
    refine (HF.out w ov O line col i (Lib.OthersKept.refl _ _ _) (Below.refl _ _) HR.out hlo hhi hO).mono ?_
    rw [HQ.out]
    rintro e w1 ⟨rfl, ov1, O1, i1, ht⟩
    have HT := Lib.hid ht
    clear ht
    go_wp2
    go_ret
    exact CRes.bad HP.out rfl HT.out
  | ok o a =>
    have hg := HG.out i o a hp
    have HP : Hid (rowsP T one wd op i = rowP T one wd op (T.length + 1) a o) := by unfold Hid rowsP; rw [hp]; rfl
    have HQ := Lib.hid hp
    clear hp
    go_enter Tryz.func42, Tryz.ntmps42
    go_wp2_with fail
    refine (HF.out w ov O line col i (Lib.OthersKept.refl _ _ _) (Below.refl _ _) HR.out hlo hhi hO).mono ?_
    rw [HQ.out]
    rintro e w1 ⟨rfl, ov1, l1, c1, ht⟩
    have HT := Lib.hid ht
    have hOa : ((O ++ o).length : Int) ≤ a := by rw [List.length_append]; omega
    have HOA := Lib.hid hOa
    clear ht hOa
    go_wp2
    go_loopw [11] (fun _ wr => ∃ (k : Nat) (j : Int) (out : List It) (ov2 : Value) (l2 c2 : Int), Hid (CTook w wr B b lv T j prop ov2 (O ++ out) 0 l2 c2 ∧ rowsP T one wd op i = rowP T one wd op k j out ∧ 1 ≤ j ∧ j ≤ T.length ∧ (T.length : Int) < j + k ∧ ((O ++ out).length : Int) ≤ j)) (fun _ wr => T.length + 1 - posOf wr b)
    case atStart => exact ⟨T.length + 1, a, o, ov1, l1, c1, HT.out, HP.out, by omega, by omega, by omega, HOA.out⟩
    case round =>
      clear HT HOA
      obtain ⟨k, j, out, ov2, l2, c2, HA⟩ := hrel
      obtain ⟨htk, hrow, hj1, hjT, hjk, hoj⟩ := HA.out
      have HTK := Lib.hid htk
      have HRW := Lib.hid hrow
      have HOJ := Lib.hid hoj
      have hpos := Lib.hid htk.rd.pos
      have hbl := htk.rd.lt
      have hBr := Nat.le_trans hB htk.low.size
      clear htk hrow hoj HA
      obtain ⟨x, hx⟩ : ∃ x, tkAt T j = x := ⟨_, rfl⟩
      have HX := Lib.hid hx
      have hfd : ∀ w : World, (Instr.field 54 (.agg #[.int .i64 x.kind, .string x.text, .int .i64 x.num, .int .i64 x.line, .int .i64 x.col]) 3).run Tryz.prog w = .ok (.agg #[.int .i64 x.line, .int .i64 x.col]) w := fun _ => by kernel_rfl
      obtain ⟨q, hq⟩ : ∃ q, isTk T j 2 wd = q := ⟨_, rfl⟩
      have HQ2 := Lib.hid hq
      clear hx hq
      go_wp2_with fail
      refine (now_any HTK.out.rd).mono ?_
      rintro e wa ⟨rfl, hba⟩
      rw [HX.out]
      unfold tokV
      have HC1 := Lib.hid ((HTK.out.then hba hB).alloc hB (.cells #[.int .i64 x.line, .int .i64 x.col] 29))
      have HP1 := Lib.hid (show PsB (wa.alloc (.cells #[.int .i64 x.line, .int .i64 x.col] 29)) wa.heap.size x.line x.col from heap_alloc_new wa _)
      have hbs := hba.size
      clear hba
      go_wp2_with fail
      refine (ctake_any HC1.out.rd (Nat.le_trans hB HC1.out.low.size) 2 wd (by omega) (by omega)).mono ?_
      rw [HQ2.out]
      rintro e wb ⟨rfl, hcb⟩
      cases q
      · have HF1 := Lib.hid (HC1.out.trans hcb)
        have HE : Hid (rowsP T one wd op i = .ok out j) := by
          unfold Hid
          rw [HRW.out]
          cases k with
          | zero => rfl
          | succ k => rw [rowP, HQ2.out]; rfl
        clear hcb
        go_wp2
        go_ret
        exact CRes.ok HE.out rfl HF1.out
      · have hin := isTk_in HQ2.out (by decide)
        obtain ⟨k, rfl⟩ : ∃ k', k = k' + 1 := ⟨k - 1, by omega⟩
        have HF1 := Lib.hid (show CTook w wb B b lv T (j + 1) prop ov2 (O ++ out) 0 l2 c2 from HC1.out.trans hcb)
        have hpb := HP1.out.kept hcb.kept (by omega)
        have HPB := Lib.hid hpb
        clear hcb hpb
        cases hp2 : one (j + 1) with
        | bad er l c =>
          have HE : Hid (rowsP T one wd op i = .bad er l c) := by unfold Hid; rw [HRW.out, rowP, HQ2.out, if_pos rfl, hp2]; rfl
          have HQ3 := Lib.hid hp2
          clear hp2
          go_wp2_with fail
          refine (HF.out wb ov2 (O ++ out) l2 c2 (j + 1) HF1.out.kept HF1.out.low HF1.out.rd (by omega) (by omega) (by have := HOJ.out; omega)).mono ?_
          rw [HQ3.out]
          rintro e wc ⟨rfl, ov3, O3, i3, htc⟩
          have HT := Lib.hid (HF1.out.trans htc)
          clear htc
          go_wp2
          go_ret
          exact CRes.bad HE.out rfl HT.out
        | ok o2 a2 =>
          have hg2 := HG.out _ _ _ hp2
          have HE : Hid (rowsP T one wd op i = rowP T one wd op k a2 (out ++ o2 ++ [item op x])) := by unfold Hid; rw [HRW.out, rowP, HQ2.out, if_pos rfl, hp2, HX.out]; rfl
          have HQ3 := Lib.hid hp2
          clear hp2
          go_wp2_with fail
          refine (HF.out wb ov2 (O ++ out) l2 c2 (j + 1) HF1.out.kept HF1.out.low HF1.out.rd (by omega) (by omega) (by have := HOJ.out; omega)).mono ?_
          rw [HQ3.out]
          rintro e wc ⟨rfl, ov3, l3, c3, htc⟩
          have hpc := HPB.out.kept htc.kept (by omega)
          obtain ⟨q0, q1⟩ := hpc.facts
          have hll : (((O ++ out) ++ o2).length : Int) ≤ a2 - 1 := by have := HOJ.out; rw [List.length_append]; omega
          have hLL := Lib.hid hll
          have HT := Lib.hid (HF1.out.trans htc)
          have hlx : ((O ++ out) ++ o2).length ≤ 1000000 := by omega
          clear htc hpc hll
          go_wp2_with fail
          refine (put_any HT.out.rd (Nat.le_trans hB HT.out.low.size) hlx _ _ _ _ _ _ _ _ _ _ _).mono ?_
          rintro e wd' ⟨rfl, ov4, hpd⟩
          have HFIN := Lib.hid (show CTook w wd' B b lv T a2 prop ov4 (O ++ (out ++ o2 ++ [item op x])) 0 l3 c3 by
            have := HT.out.trans hpd
            rw [List.append_assoc, List.append_assoc] at this
            rw [List.append_assoc]; exact this)
          have hpe := Lib.hid hpd.rd.pos
          clear hpd
          go_wp2
          go_roundw
          case rel =>
            refine ⟨k, a2, out ++ o2 ++ [item op x], ov4, l3, c3, HFIN.out, HE.out, by omega, by omega, by omega, ?_⟩
            have := hLL.out
            simp only [List.length_append, List.length_cons, List.length_nil] at this ⊢
            omega
          case measure =>
            rw [hpe.out, hpos.out]; omega

end Go.Proofs.YthhjepgcbfmfeaaGreatDoor

namespace Go.Proofs.YthhjepgcbfmfeaaGreatDoor
open Go.RowKit

/-- a formula that may be n deep is read as the plain one -/
def FormOK (n : Nat) : Prop :=
  ∀ (w : World) (B b : Nat) (lv : Value) (T : List Tk) (i : Int) (prop : Bool) (ov : Value) (O : List It) (line col d : Int), Cr w B b lv T i prop ov O 0 line col → B ≤ w.heap.size → -9223372036854775808 ≤ i → i ≤ 1000000 → (O.length : Int) ≤ max i 0 → d = 25 - (n : Int) →
    Calls Tryz.prog 27 #[.pointer (some ⟨b, 0, none⟩), .int .i64 d] w (CRes w B b lv T prop O ((bothP T prop n).2 i))
/-- a sign that may be n deep is read as the plain one -/
def SignOK (n : Nat) : Prop :=
  ∀ (w : World) (B b : Nat) (lv : Value) (T : List Tk) (i : Int) (prop : Bool) (ov : Value) (O : List It) (line col d : Int), Cr w B b lv T i prop ov O 0 line col → B ≤ w.heap.size → -9223372036854775808 ≤ i → i ≤ 1000000 → (O.length : Int) ≤ max i 0 → d = 25 - (n : Int) →
    Calls Tryz.prog 45 #[.pointer (some ⟨b, 0, none⟩), .int .i64 d] w (CRes w B b lv T prop O ((bothP T prop n).1 i))

theorem CTook.size {w w' : World} {B b : Nat} {lv : Value} {T : List Tk} {i : Int} {prop : Bool} {ov : Value} {O : List It} {er line col : Int} (h : CTook w w' B b lv T i prop ov O er line col) : B ≤ w.heap.size → B ≤ w'.heap.size := fun hB => Nat.le_trans hB h.low.size
theorem needP_ok {T : List Tk} {i kind : Int} {s : ByteArray} {f : Int → PR} (h : isTk T i kind s = true) : needP T i kind s f = f (i + 1) := by unfold needP; rw [if_pos h]
theorem needP_bad {T : List Tk} {i kind : Int} {s : ByteArray} {f : Int → PR} (h : isTk T i kind s = false) : needP T i kind s f = .bad 4 (tkAt T i).line (tkAt T i).col := by unfold needP; rw [if_neg (by rw [h]; simp)]; rfl
theorem also_of_ok {p : PR} {f : List It → Int → PR} {o : List It} {a : Int} (h : p = .ok o a) : p.also f = f o a := by rw [h]; rfl
theorem also_of_bad {p : PR} {f : List It → Int → PR} {e l c : Int} (h : p = .bad e l c) : p.also f = .bad e l c := by rw [h]; rfl

set_option maxRecDepth 100000 in
set_option maxHeartbeats 4000000 in
theorem until_any (n : Nat) (hn : n ≤ 24) (hf : FormOK n) {w : World} {B b : Nat} {lv : Value} {T : List Tk} {i : Int} {prop : Bool} {ov : Value} {O : List It} {line col : Int} (h : Cr w B b lv T i prop ov O 0 line col) (hB : B ≤ w.heap.size) (hi0 : 0 ≤ i) (hhi : i ≤ 1000000) (hO : (O.length : Int) ≤ i) (d op : Int) (hd : d = 24 - (n : Int)) :
    Calls Tryz.prog 66 #[.pointer (some ⟨b, 0, none⟩), .int .i64 d, .int .i64 op] w (CRes w B b lv T prop O (untilP T (bothP T prop n).2 op i)) := by
  have HR := Lib.hid h
  have hbl := h.lt
  have hTl := h.len
  have HFO := Lib.hid hf
  have HG := Lib.hid (both_good T prop n).2
  obtain ⟨form, hform⟩ : ∃ f, (bothP T prop n).2 = f := ⟨_, rfl⟩
  have HFM := Lib.hid hform
  rw [hform]
  unfold Hid at HG
  rw [hform] at HG
  have HG := Lib.hid HG
  obtain ⟨x, hx⟩ : ∃ x, tkAt T i = x := ⟨_, rfl⟩
  have HX := Lib.hid hx
  have HN := Lib.hid (now_any h)
  have hd0 : 0 ≤ d := by omega
  have hd1 : d ≤ 24 := by omega
  have hdn : d + 1 = 25 - (n : Int) := by omega
  have HDN := Lib.hid hdn
  have HU : Hid (untilP T form op i = needP T (i + 1) 4 sBegin fun a => (form a).also fun o1 b => needP T b 2 wU fun c => (form c).also fun o2 d => needP T d 4 sEnd fun e => .ok (o1 ++ o2 ++ [item op x]) e) := by
    unfold Hid untilP; rw [hx]
  have hfd : ∀ w : World, (Instr.field 54 (.agg #[.int .i64 x.kind, .string x.text, .int .i64 x.num, .int .i64 x.line, .int .i64 x.col]) 3).run Tryz.prog w = .ok (.agg #[.int .i64 x.line, .int .i64 x.col]) w := fun _ => by kernel_rfl
  clear h hf hform hx hd hdn
  go_enter Tryz.func66, Tryz.ntmps66
  go_wp2_with fail
  refine HN.out.mono ?_
  rintro e w1 ⟨rfl, hb1⟩
  rw [HX.out]
  unfold tokV
  have hc0 := (CTook.of_rd HR.out).then hb1 hB
  obtain ⟨_, c1, _, _, _, _, _⟩ := hc0.rd.facts
  obtain ⟨f1, _, _, _, _⟩ := hc0.rd.free
  have hbl1 := hc0.rd.lt
  have hs1 := hb1.size
  have HC1 := Lib.hid ((hc0.moved (i + 1)).alloc hB (.cells #[.int .i64 x.line, .int .i64 x.col] 29))
  have HP1 := Lib.hid (show PsB ((w1.setCell ⟨b, 1, none⟩ (.int .i64 (i + 1))).alloc (.cells #[.int .i64 x.line, .int .i64 x.col] 29)) w1.heap.size x.line x.col from heap_at_size _ _ _ (by simp))
  clear hb1 hc0
  go_wp2_with fail

  obtain ⟨qa, hqa⟩ : ∃ q, isTk T (i + 1) 4 sBegin = q := ⟨_, rfl⟩
  have HQA := Lib.hid hqa
  clear hqa
  refine (need_any HC1.out.rd (HC1.out.size hB) 4 _ (by omega) (by omega)).mono ?_
  rw [show isTk T (i + 1) 4 ⟨#[91]⟩ = qa from HQA.out]
  rintro e w2 ⟨rfl, hok, hbad⟩
  cases qa
  · have HF := Lib.hid (HC1.out.trans (hbad rfl))
    clear hok hbad
    go_wp2
    go_ret
    exact CRes.bad (HU.out.trans (needP_bad HQA.out)) rfl HF.out
  obtain ⟨l2, c2, ht2⟩ := hok rfl
  have hga := isTk_in HQA.out (by decide)
  have HC2 := Lib.hid (HC1.out.trans ht2)
  have HP2 := Lib.hid (HP1.out.kept ht2.kept (by omega))
  clear hok hbad ht2
  unfold Hid at HU
  rw [needP_ok HQA.out] at HU
  have HU := Lib.hid HU
  cases hp1 : form (i + 1 + 1) with
  | bad er l c =>
    have HE := Lib.hid hp1
    clear hp1
    go_wp2_with fail
    refine (HFO.out _ B b lv T _ prop ov O l2 c2 (d + 1) HC2.out.rd (HC2.out.size hB) (by omega) (by omega) (by omega) HDN.out).mono ?_
    rw [HFM.out, HE.out]
    rintro e w3 ⟨rfl, ov3, O3, i3, ht⟩
    have HF := Lib.hid (HC2.out.trans ht)
    clear ht
    go_wp2
    go_ret
    exact CRes.bad (HU.out.trans (also_of_bad HE.out)) rfl HF.out
  | ok o1 a1 =>
    have hg1 := HG.out _ _ _ hp1
    have HE := Lib.hid hp1
    unfold Hid at HU
    rw [also_of_ok hp1] at HU
    have HU := Lib.hid HU
    clear hp1
    go_wp2_with fail
    refine (HFO.out _ B b lv T _ prop ov O l2 c2 (d + 1) HC2.out.rd (HC2.out.size hB) (by omega) (by omega) (by omega) HDN.out).mono ?_
    rw [HFM.out, HE.out]
    rintro e w3 ⟨rfl, ov3, l3, c3, ht⟩
    have HC3 := Lib.hid (HC2.out.trans ht)
    have HP3 := Lib.hid (HP2.out.kept ht.kept (by omega))
    have hl3 : ((O ++ o1).length : Int) ≤ a1 := by rw [List.length_append]; omega
    clear ht
    go_wp2_with fail
    obtain ⟨qb, hqb⟩ : ∃ q, isTk T (a1) 2 wU = q := ⟨_, rfl⟩
    have HQB := Lib.hid hqb
    clear hqb
    refine (need_any HC3.out.rd (HC3.out.size hB) 2 _ (by omega) (by omega)).mono ?_
    rw [show isTk T (a1) 2 ⟨#[85]⟩ = qb from HQB.out]
    rintro e w4 ⟨rfl, hok, hbad⟩
    cases qb
    · have HF := Lib.hid (HC3.out.trans (hbad rfl))
      clear hok hbad
      go_wp2
      go_ret
      exact CRes.bad (HU.out.trans (needP_bad HQB.out)) rfl HF.out
    obtain ⟨l4, c4, ht4⟩ := hok rfl
    have hgb := isTk_in HQB.out (by decide)
    have HC4 := Lib.hid (HC3.out.trans ht4)
    have HP4 := Lib.hid (HP3.out.kept ht4.kept (by omega))
    clear hok hbad ht4
    unfold Hid at HU
    rw [needP_ok HQB.out] at HU
    have HU := Lib.hid HU
    cases hp2 : form (a1 + 1) with
    | bad er l c =>
      have HE2 := Lib.hid hp2
      clear hp2
      go_wp2_with fail
      refine (HFO.out _ B b lv T _ prop ov3 (O ++ o1) l4 c4 (d + 1) HC4.out.rd (HC4.out.size hB) (by omega) (by omega) (by omega) HDN.out).mono ?_
      rw [HFM.out, HE2.out]
      rintro e w5 ⟨rfl, ov5, O5, i5, ht⟩
      have HF := Lib.hid (HC4.out.trans ht)
      clear ht
      go_wp2
      go_ret
      exact CRes.bad (HU.out.trans (also_of_bad HE2.out)) rfl HF.out
    | ok o2 a2 =>
      have hg2 := HG.out _ _ _ hp2
      have HE2 := Lib.hid hp2
      unfold Hid at HU
      rw [also_of_ok hp2] at HU
      have HU := Lib.hid HU
      clear hp2
      go_wp2_with fail
      refine (HFO.out _ B b lv T _ prop ov3 (O ++ o1) l4 c4 (d + 1) HC4.out.rd (HC4.out.size hB) (by omega) (by omega) (by omega) HDN.out).mono ?_
      rw [HFM.out, HE2.out]
      rintro e w5 ⟨rfl, ov5, l5, c5, ht⟩
      have HC5 := Lib.hid (HC4.out.trans ht)
      have HP5 := Lib.hid (HP4.out.kept ht.kept (by omega))
      have hl5 : ((O ++ o1 ++ o2).length : Int) ≤ a2 := by rw [List.length_append]; omega
      clear ht
      go_wp2_with fail
      obtain ⟨qc, hqc⟩ : ∃ q, isTk T (a2) 4 sEnd = q := ⟨_, rfl⟩
      have HQC := Lib.hid hqc
      clear hqc
      refine (need_any HC5.out.rd (HC5.out.size hB) 4 _ (by omega) (by omega)).mono ?_
      rw [show isTk T (a2) 4 ⟨#[93]⟩ = qc from HQC.out]
      rintro e w6 ⟨rfl, hok, hbad⟩
      cases qc
      · have HF := Lib.hid (HC5.out.trans (hbad rfl))
        clear hok hbad
        go_wp2
        go_ret
        exact CRes.bad (HU.out.trans (needP_bad HQC.out)) rfl HF.out
      obtain ⟨l6, c6, ht6⟩ := hok rfl
      have hgc := isTk_in HQC.out (by decide)
      have HC6 := Lib.hid (HC5.out.trans ht6)
      have hp6 := HP5.out.kept ht6.kept (by omega)
      obtain ⟨q0, q1⟩ := hp6.facts
      have hO6 : (O ++ o1 ++ o2).length ≤ 1000000 := by omega
      clear hok hbad ht6 hp6
      unfold Hid at HU
      rw [needP_ok HQC.out] at HU
      have HU := Lib.hid HU
      go_wp2_with fail
      refine (put_any HC6.out.rd (HC6.out.size hB) hO6 _ _ _ _ _ _ _ _ _ _ _).mono ?_
      rintro e w7 ⟨rfl, ov7, hp⟩
      have HF := Lib.hid (show CTook w w7 B b lv T (a2 + 1) prop ov7 (O ++ (o1 ++ o2 ++ [item op x])) 0 l6 c6 by
        have := HC6.out.trans hp
        rw [List.append_assoc, List.append_assoc] at this
        rw [List.append_assoc]; exact this)
      clear hp
      go_wp2
      go_ret
      exact CRes.ok HU.out rfl HF.out

end Go.Proofs.YthhjepgcbfmfeaaGreatDoor
