/- Contract of the formulas' reader: atom (printed by gen_atom.py). Plain: what is read lies within the tokens, and has no more items than tokens. Contract of the formulas' reader: row. -/
import Derived.Test.YthlofmnmacpogaaGreatDoorDe03
import Derived.Test.YthlofmnmacpogaaGreatDoorDe01

namespace Go.Proofs.YthlofmnmacpogaaGreatDoor
open Go.RowKit

set_option maxRecDepth 100000 in
set_option maxHeartbeats 4000000 in
theorem atom_any {w : World} {B b : Nat} {lv : Value} {T : List Tk} {i : Int} {prop : Bool} {ov : Value} {O : List It} {line col : Int} (h : Cr w B b lv T i prop ov O 0 line col) (hB : B ≤ w.heap.size) (hlo : -9223372036854775808 ≤ i) (hhi : i ≤ 1800000) (hO : O.length ≤ 1000000) :
    Calls Tryz.prog 139 #[.pointer (some ⟨b, 0, none⟩), tokV (tkAt T i)] w (CRes w B b lv T prop O (atomP T prop i)) := by
  have HR := Lib.hid h
  have hbl := h.lt
  obtain ⟨x, hx⟩ : ∃ x, tkAt T i = x := ⟨_, rfl⟩
  have HX := Lib.hid hx
  rw [hx]
  have HC := Lib.hid ((CTook.of_rd h).alloc hB (.cells #[.int .i64 x.kind, .string x.text, .int .i64 x.num, .int .i64 x.line, .int .i64 x.col] 48))
  have HM := Lib.hid (((CTook.of_rd h).moved (i + 1)).alloc hB (.cells #[.int .i64 x.kind, .string x.text, .int .i64 x.num, .int .i64 x.line, .int .i64 x.col] 48))
  have hb0 : Below w.heap.size w (w.alloc (.cells #[.int .i64 x.kind, .string x.text, .int .i64 x.num, .int .i64 x.line, .int .i64 x.col] 48)) := (Below.refl _ w).alloc (Nat.le_refl _) _
  have HB0 := Lib.hid hb0
  obtain ⟨_, c1, c2, _, _, _, _⟩ := h.facts
  obtain ⟨f1, _, _, _, _⟩ := h.free
  clear h hx hb0
  unfold tokV
  have eOpen := eq_lit [111, 112, 101, 110] x.text
  have eDone := eq_lit [100, 111, 110, 101] x.text
  have eTrue := eq_lit [116, 114, 117, 101] x.text
  have eFalse := eq_lit [102, 97, 108, 115, 101] x.text
  have eCan := eq_lit [99, 97, 110] x.text
  have eDid := eq_lit [100, 105, 100] x.text
  have eComplete := eq_lit [99, 111, 109, 112, 108, 101, 116, 101] x.text
  have eStuck := eq_lit [115, 116, 117, 99, 107] x.text
  by_cases hOpen : x.text = wOpen
  · have HP : Hid (atomP T prop i = namedP T i 9) := by unfold Hid atomP; rw [HX.out, if_pos hOpen]
    rw [decide_eq_true (by exact hOpen)] at eOpen
    rw [show decide (x.text = ⟨#[100, 111, 110, 101]⟩) = false from by rw [hOpen]; decide] at eDone
    rw [show decide (x.text = ⟨#[116, 114, 117, 101]⟩) = false from by rw [hOpen]; decide] at eTrue
    rw [show decide (x.text = ⟨#[102, 97, 108, 115, 101]⟩) = false from by rw [hOpen]; decide] at eFalse
    rw [show decide (x.text = ⟨#[99, 97, 110]⟩) = false from by rw [hOpen]; decide] at eCan
    rw [show decide (x.text = ⟨#[100, 105, 100]⟩) = false from by rw [hOpen]; decide] at eDid
    rw [show decide (x.text = ⟨#[99, 111, 109, 112, 108, 101, 116, 101]⟩) = false from by rw [hOpen]; decide] at eComplete
    rw [show decide (x.text = ⟨#[115, 116, 117, 99, 107]⟩) = false from by rw [hOpen]; decide] at eStuck
    clear hOpen
    go_enter Tryz.func139, Tryz.ntmps139
    go_wp2_with fail
    refine (named_any HC.out.rd (Nat.le_trans hB HC.out.low.size) hlo (by omega) hO 9).mono ?_
    rintro e w1 hres
    have HS := Lib.hid (hres.after HB0.out hB)
    obtain ⟨q, rfl⟩ := hres.val
    clear hres
    go_wp2
    go_ret
    rw [HP.out]; exact HS.out
  by_cases hDone : x.text = wDone
  · have HP : Hid (atomP T prop i = namedP T i 10) := by unfold Hid atomP; rw [HX.out, if_neg hOpen, if_pos hDone]
    rw [show decide (x.text = ⟨#[111, 112, 101, 110]⟩) = false from by rw [hDone]; decide] at eOpen
    rw [decide_eq_true (by exact hDone)] at eDone
    rw [show decide (x.text = ⟨#[116, 114, 117, 101]⟩) = false from by rw [hDone]; decide] at eTrue
    rw [show decide (x.text = ⟨#[102, 97, 108, 115, 101]⟩) = false from by rw [hDone]; decide] at eFalse
    rw [show decide (x.text = ⟨#[99, 97, 110]⟩) = false from by rw [hDone]; decide] at eCan
    rw [show decide (x.text = ⟨#[100, 105, 100]⟩) = false from by rw [hDone]; decide] at eDid
    rw [show decide (x.text = ⟨#[99, 111, 109, 112, 108, 101, 116, 101]⟩) = false from by rw [hDone]; decide] at eComplete
    rw [show decide (x.text = ⟨#[115, 116, 117, 99, 107]⟩) = false from by rw [hDone]; decide] at eStuck
    clear hOpen hDone
    go_enter Tryz.func139, Tryz.ntmps139
    go_wp2_with fail
    refine (named_any HC.out.rd (Nat.le_trans hB HC.out.low.size) hlo (by omega) hO 10).mono ?_
    rintro e w1 hres
    have HS := Lib.hid (hres.after HB0.out hB)
    obtain ⟨q, rfl⟩ := hres.val
    clear hres
    go_wp2
    go_ret
    rw [HP.out]; exact HS.out
  by_cases hTrue : x.text = wTrue
  · have HP : Hid (atomP T prop i = .ok [item 1 x] (i + 1)) := by unfold Hid atomP; rw [HX.out, if_neg hOpen, if_neg hDone, if_pos hTrue]
    rw [show decide (x.text = ⟨#[111, 112, 101, 110]⟩) = false from by rw [hTrue]; decide] at eOpen
    rw [show decide (x.text = ⟨#[100, 111, 110, 101]⟩) = false from by rw [hTrue]; decide] at eDone
    rw [decide_eq_true (by exact hTrue)] at eTrue
    rw [show decide (x.text = ⟨#[102, 97, 108, 115, 101]⟩) = false from by rw [hTrue]; decide] at eFalse
    rw [show decide (x.text = ⟨#[99, 97, 110]⟩) = false from by rw [hTrue]; decide] at eCan
    rw [show decide (x.text = ⟨#[100, 105, 100]⟩) = false from by rw [hTrue]; decide] at eDid
    rw [show decide (x.text = ⟨#[99, 111, 109, 112, 108, 101, 116, 101]⟩) = false from by rw [hTrue]; decide] at eComplete
    rw [show decide (x.text = ⟨#[115, 116, 117, 99, 107]⟩) = false from by rw [hTrue]; decide] at eStuck
    clear hOpen hDone hTrue
    go_enter Tryz.func139, Tryz.ntmps139
    go_wp2_with fail
    refine (put_any HM.out.rd (Nat.le_trans hB HM.out.low.size) hO _ _ _ _ _ _ _ _ _ _ _).mono ?_
    rintro e w1 ⟨rfl, ov', hp⟩
    have HF := Lib.hid (HM.out.trans hp)
    clear hp
    go_wp2
    go_ret
    exact CRes.ok HP.out rfl HF.out
  by_cases hFalse : x.text = wFalse
  · have HP : Hid (atomP T prop i = .ok [item 2 x] (i + 1)) := by unfold Hid atomP; rw [HX.out, if_neg hOpen, if_neg hDone, if_neg hTrue, if_pos hFalse]
    rw [show decide (x.text = ⟨#[111, 112, 101, 110]⟩) = false from by rw [hFalse]; decide] at eOpen
    rw [show decide (x.text = ⟨#[100, 111, 110, 101]⟩) = false from by rw [hFalse]; decide] at eDone
    rw [show decide (x.text = ⟨#[116, 114, 117, 101]⟩) = false from by rw [hFalse]; decide] at eTrue
    rw [decide_eq_true (by exact hFalse)] at eFalse
    rw [show decide (x.text = ⟨#[99, 97, 110]⟩) = false from by rw [hFalse]; decide] at eCan
    rw [show decide (x.text = ⟨#[100, 105, 100]⟩) = false from by rw [hFalse]; decide] at eDid
    rw [show decide (x.text = ⟨#[99, 111, 109, 112, 108, 101, 116, 101]⟩) = false from by rw [hFalse]; decide] at eComplete
    rw [show decide (x.text = ⟨#[115, 116, 117, 99, 107]⟩) = false from by rw [hFalse]; decide] at eStuck
    clear hOpen hDone hTrue hFalse
    go_enter Tryz.func139, Tryz.ntmps139
    go_wp2_with fail
    refine (put_any HM.out.rd (Nat.le_trans hB HM.out.low.size) hO _ _ _ _ _ _ _ _ _ _ _).mono ?_
    rintro e w1 ⟨rfl, ov', hp⟩
    have HF := Lib.hid (HM.out.trans hp)
    clear hp
    go_wp2
    go_ret
    exact CRes.ok HP.out rfl HF.out
  rw [decide_eq_false (by exact hOpen)] at eOpen
  rw [decide_eq_false (by exact hDone)] at eDone
  rw [decide_eq_false (by exact hTrue)] at eTrue
  rw [decide_eq_false (by exact hFalse)] at eFalse
  cases prop
  · have HP : Hid (atomP T false i = .bad 4 x.line x.col) := by unfold Hid atomP; rw [HX.out, if_neg hOpen, if_neg hDone, if_neg hTrue, if_neg hFalse, if_pos rfl]; unfold badP; rw [HX.out]
    clear hOpen hDone hTrue hFalse eCan eDid eComplete eStuck
    go_enter Tryz.func139, Tryz.ntmps139
    go_wp2_with fail
    refine (cfail_any HC.out.rd (Nat.le_trans hB HC.out.low.size) 4 rfl).mono ?_
    rintro e w1 ⟨rfl, hp⟩
    rw [HX.out] at hp
    have HF := Lib.hid (HC.out.trans hp)
    clear hp
    go_wp2
    go_ret
    exact CRes.bad HP.out rfl HF.out
  · by_cases hCan : x.text = wCan
    · have HP : Hid (atomP T true i = namedP T i 11) := by unfold Hid atomP; rw [HX.out, if_neg hOpen, if_neg hDone, if_neg hTrue, if_neg hFalse, if_neg (by decide), if_pos hCan]
      rw [decide_eq_true (by exact hCan)] at eCan
      rw [show decide (x.text = ⟨#[100, 105, 100]⟩) = false from by rw [hCan]; decide] at eDid
      rw [show decide (x.text = ⟨#[99, 111, 109, 112, 108, 101, 116, 101]⟩) = false from by rw [hCan]; decide] at eComplete
      rw [show decide (x.text = ⟨#[115, 116, 117, 99, 107]⟩) = false from by rw [hCan]; decide] at eStuck
      clear hOpen hDone hTrue hFalse hCan
      go_enter Tryz.func139, Tryz.ntmps139
      go_wp2_with fail
      refine (named_any HC.out.rd (Nat.le_trans hB HC.out.low.size) hlo (by omega) hO 11).mono ?_
      rintro e w1 hres
      have HS := Lib.hid (hres.after HB0.out hB)
      obtain ⟨q, rfl⟩ := hres.val
      clear hres
      go_wp2
      go_ret
      rw [HP.out]; exact HS.out
    by_cases hDid : x.text = wDid
    · have HP : Hid (atomP T true i = didP T i) := by unfold Hid atomP; rw [HX.out, if_neg hOpen, if_neg hDone, if_neg hTrue, if_neg hFalse, if_neg (by decide), if_neg hCan, if_pos hDid]
      rw [show decide (x.text = ⟨#[99, 97, 110]⟩) = false from by rw [hDid]; decide] at eCan
      rw [decide_eq_true (by exact hDid)] at eDid
      rw [show decide (x.text = ⟨#[99, 111, 109, 112, 108, 101, 116, 101]⟩) = false from by rw [hDid]; decide] at eComplete
      rw [show decide (x.text = ⟨#[115, 116, 117, 99, 107]⟩) = false from by rw [hDid]; decide] at eStuck
      clear hOpen hDone hTrue hFalse hCan hDid
      go_enter Tryz.func139, Tryz.ntmps139
      go_wp2_with fail
      refine (did_any HC.out.rd (Nat.le_trans hB HC.out.low.size) hlo (by omega) hO).mono ?_
      rintro e w1 hres
      have HS := Lib.hid (hres.after HB0.out hB)
      obtain ⟨q, rfl⟩ := hres.val
      clear hres
      go_wp2
      go_ret
      rw [HP.out]; exact HS.out
    by_cases hComplete : x.text = wComplete
    · have HP : Hid (atomP T true i = .ok [item 13 x] (i + 1)) := by unfold Hid atomP; rw [HX.out, if_neg hOpen, if_neg hDone, if_neg hTrue, if_neg hFalse, if_neg (by decide), if_neg hCan, if_neg hDid, if_pos hComplete]
      rw [show decide (x.text = ⟨#[99, 97, 110]⟩) = false from by rw [hComplete]; decide] at eCan
      rw [show decide (x.text = ⟨#[100, 105, 100]⟩) = false from by rw [hComplete]; decide] at eDid
      rw [decide_eq_true (by exact hComplete)] at eComplete
      rw [show decide (x.text = ⟨#[115, 116, 117, 99, 107]⟩) = false from by rw [hComplete]; decide] at eStuck
      clear hOpen hDone hTrue hFalse hCan hDid hComplete
      go_enter Tryz.func139, Tryz.ntmps139
      go_wp2_with fail
      refine (put_any HM.out.rd (Nat.le_trans hB HM.out.low.size) hO _ _ _ _ _ _ _ _ _ _ _).mono ?_
      rintro e w1 ⟨rfl, ov', hp⟩
      have HF := Lib.hid (HM.out.trans hp)
      clear hp
      go_wp2
      go_ret
      exact CRes.ok HP.out rfl HF.out
    by_cases hStuck : x.text = wStuck
    · have HP : Hid (atomP T true i = .ok [item 14 x] (i + 1)) := by unfold Hid atomP; rw [HX.out, if_neg hOpen, if_neg hDone, if_neg hTrue, if_neg hFalse, if_neg (by decide), if_neg hCan, if_neg hDid, if_neg hComplete, if_pos hStuck]
      rw [show decide (x.text = ⟨#[99, 97, 110]⟩) = false from by rw [hStuck]; decide] at eCan
      rw [show decide (x.text = ⟨#[100, 105, 100]⟩) = false from by rw [hStuck]; decide] at eDid
      rw [show decide (x.text = ⟨#[99, 111, 109, 112, 108, 101, 116, 101]⟩) = false from by rw [hStuck]; decide] at eComplete
      rw [decide_eq_true (by exact hStuck)] at eStuck
      clear hOpen hDone hTrue hFalse hCan hDid hComplete hStuck
      go_enter Tryz.func139, Tryz.ntmps139
      go_wp2_with fail
      refine (put_any HM.out.rd (Nat.le_trans hB HM.out.low.size) hO _ _ _ _ _ _ _ _ _ _ _).mono ?_
      rintro e w1 ⟨rfl, ov', hp⟩
      have HF := Lib.hid (HM.out.trans hp)
      clear hp
      go_wp2
      go_ret
      exact CRes.ok HP.out rfl HF.out
    rw [decide_eq_false (by exact hCan)] at eCan
    rw [decide_eq_false (by exact hDid)] at eDid
    rw [decide_eq_false (by exact hComplete)] at eComplete
    rw [decide_eq_false (by exact hStuck)] at eStuck
    have HP : Hid (atomP T true i = .bad 4 x.line x.col) := by unfold Hid atomP; rw [HX.out, if_neg hOpen, if_neg hDone, if_neg hTrue, if_neg hFalse, if_neg (by decide), if_neg hCan, if_neg hDid, if_neg hComplete, if_neg hStuck]; unfold badP; rw [HX.out]
    clear hOpen hDone hTrue hFalse hCan hDid hComplete hStuck
    go_enter Tryz.func139, Tryz.ntmps139
    go_wp2_with fail
    refine (cfail_any HC.out.rd (Nat.le_trans hB HC.out.low.size) 4 rfl).mono ?_
    rintro e w1 ⟨rfl, hp⟩
    rw [HX.out] at hp
    have HF := Lib.hid (HC.out.trans hp)
    clear hp
    go_wp2
    go_ret
    exact CRes.bad HP.out rfl HF.out

end Go.Proofs.YthlofmnmacpogaaGreatDoor

namespace Go.Proofs.YthlofmnmacpogaaGreatDoor
open Go.RowKit

def Good (T : List Tk) (one : Int → PR) : Prop := ∀ i o a, one i = .ok o a → 0 ≤ i ∧ i < a ∧ a ≤ T.length ∧ (o.length : Int) ≤ a - i

theorem tkAt_in {T : List Tk} {i : Int} (h : (tkAt T i).kind ≠ 5) : 0 ≤ i ∧ i < T.length := by
  unfold tkAt at h
  split at h
  · exact absurd rfl h
  · split at h
    · rename_i h1 x hx
      have := (List.getElem?_eq_some_iff.1 hx).1
      omega
    · exact absurd rfl h
theorem isTk_kind {T : List Tk} {i kind : Int} {s : ByteArray} (h : isTk T i kind s = true) : (tkAt T i).kind = kind := by
  unfold isTk at h
  simp only [Bool.and_eq_true, decide_eq_true_eq] at h
  exact h.1
theorem isTk_in {T : List Tk} {i kind : Int} {s : ByteArray} (h : isTk T i kind s = true) (hk : kind ≠ 5) : 0 ≤ i ∧ i < T.length :=
  tkAt_in (by rw [isTk_kind h]; exact hk)

theorem also_ok {p : PR} {f : List It → Int → PR} {o : List It} {a : Int} (h : p.also f = .ok o a) : ∃ o1 a1, p = .ok o1 a1 ∧ f o1 a1 = .ok o a := by
  cases p with
  | ok o1 a1 => exact ⟨o1, a1, rfl, h⟩
  | bad er l c => cases h
theorem need_ok {T : List Tk} {i kind : Int} {s : ByteArray} {f : Int → PR} {o : List It} {a : Int} (h : needP T i kind s f = .ok o a) : isTk T i kind s = true ∧ f (i + 1) = .ok o a := by
  unfold needP at h
  split at h
  · rename_i hq; exact ⟨hq, h⟩
  · cases h

theorem rowP_good {T : List Tk} {one : Int → PR} (h : Good T one) (wd : ByteArray) (op : Int) : ∀ (k : Nat) (i : Int) (out : List It) (o : List It) (a : Int), 0 ≤ i → i ≤ T.length → rowP T one wd op k i out = .ok o a → i ≤ a ∧ a ≤ T.length ∧ (o.length : Int) - out.length ≤ a - i
  | 0, i, out, o, a, _, _, he => by
    simp only [rowP, PR.ok.injEq] at he
    obtain ⟨rfl, rfl⟩ := he
    omega
  | k + 1, i, out, o, a, h0, h1, he => by
    rw [rowP] at he
    split at he
    · rename_i hq
      obtain ⟨o1, a1, he1, he2⟩ := also_ok he
      have g1 := h _ _ _ he1
      have g2 := rowP_good h wd op k _ _ _ _ (by omega) (by omega) he2
      simp only [List.length_append, List.length_cons, List.length_nil] at g2
      omega
    · simp only [PR.ok.injEq] at he
      obtain ⟨rfl, rfl⟩ := he
      omega
theorem rowsP_good {T : List Tk} {one : Int → PR} (h : Good T one) (wd : ByteArray) (op : Int) : Good T (rowsP T one wd op) := by
  intro i o a he
  obtain ⟨o1, a1, he1, he2⟩ := also_ok he
  have g1 := h _ _ _ he1
  have g2 := rowP_good h wd op _ _ _ _ _ (by omega) (by omega) he2
  omega

theorem comp_sign {T : List Tk} {i : Int} (h : compN T i ≠ 0) : (tkAt T i).kind = 4 := by
  unfold compN at h
  split at h
  · exact absurd rfl h
  · rename_i h1; omega
theorem isWord_kind {t : Tk} (h : isWord t = true) : t.kind ≠ 5 := by
  unfold isWord at h
  simp only [Bool.or_eq_true, decide_eq_true_eq] at h
  omega
theorem compP_good (T : List Tk) : Good T (compP T) := by
  intro i o a he
  unfold compP at he
  split at he
  · rename_i h1
    have g1 := tkAt_in (isWord_kind h1)
    split at he
    · cases he
    · split at he
      · rename_i h2 h3
        have g3 := tkAt_in (isWord_kind h3)
        simp only [PR.ok.injEq] at he
        obtain ⟨rfl, rfl⟩ := he
        simp only [List.length_cons, List.length_nil]
        omega
      · cases he
  · cases he
theorem namedP_good (T : List Tk) (i : Int) (op : Int) (o : List It) (a : Int) (he : namedP T i op = .ok o a) : i < a ∧ a ≤ T.length ∧ (o.length : Int) ≤ a - i := by
  unfold namedP at he
  split at he
  · rename_i h1
    have g1 := tkAt_in (T := T) (i := i + 1) (by omega)
    simp only [PR.ok.injEq] at he
    obtain ⟨rfl, rfl⟩ := he
    simp only [List.length_cons, List.length_nil]
    omega
  · cases he
theorem didP_good (T : List Tk) (i : Int) (o : List It) (a : Int) (he : didP T i = .ok o a) : i < a ∧ a ≤ T.length ∧ (o.length : Int) ≤ a - i := by
  unfold didP at he
  split at he
  · split at he
    · rename_i h1 h2
      have g1 := tkAt_in (T := T) (i := i + 2) (by omega)
      simp only [PR.ok.injEq] at he
      obtain ⟨rfl, rfl⟩ := he
      simp only [List.length_cons, List.length_nil]
      omega
    · cases he
  · cases he
theorem item_good {T : List Tk} {i : Int} {x : It} {o : List It} {a : Int} (hi : 0 ≤ i ∧ i < T.length) (he : PR.ok [x] (i + 1) = .ok o a) : i < a ∧ a ≤ T.length ∧ (o.length : Int) ≤ a - i := by
  simp only [PR.ok.injEq] at he
  obtain ⟨rfl, rfl⟩ := he
  simp only [List.length_cons, List.length_nil]
  omega
theorem atomP_good (T : List Tk) (prop : Bool) (i : Int) (o : List It) (a : Int) (hi : 0 ≤ i ∧ i < T.length) (he : atomP T prop i = .ok o a) : i < a ∧ a ≤ T.length ∧ (o.length : Int) ≤ a - i := by
  unfold atomP at he
  split at he
  · exact namedP_good _ _ _ _ _ he
  split at he
  · exact namedP_good _ _ _ _ _ he
  split at he
  · exact item_good hi he
  split at he
  · exact item_good hi he
  split at he
  · cases he
  split at he
  · exact namedP_good _ _ _ _ _ he
  split at he
  · exact didP_good _ _ _ _ he
  split at he
  · exact item_good hi he
  split at he
  · exact item_good hi he
  · cases he
theorem untilP_good {T : List Tk} {form : Int → PR} (h : Good T form) (op i : Int) (o : List It) (a : Int) (he : untilP T form op i = .ok o a) : i < a ∧ a ≤ T.length ∧ (o.length : Int) ≤ a - i := by
  unfold untilP at he
  obtain ⟨h1, he⟩ := need_ok he
  obtain ⟨o1, b, hf, he⟩ := also_ok he
  obtain ⟨h2, he⟩ := need_ok he
  obtain ⟨o2, d, hf2, he⟩ := also_ok he
  obtain ⟨h3, he⟩ := need_ok he
  have g1 := h _ _ _ hf
  have g2 := h _ _ _ hf2
  have g3 := isTk_in h3 (by decide)
  simp only [PR.ok.injEq] at he
  obtain ⟨rfl, rfl⟩ := he
  simp only [List.length_append, List.length_cons, List.length_nil]
  omega
theorem signP_good {T : List Tk} {prop : Bool} {sg form : Int → PR} (hs : Good T sg) (hf : Good T form) : Good T (signP T prop sg form) := by
  intro i o a he
  unfold signP at he
  split at he
  · rename_i h1
    have g0 := isTk_in h1 (by decide)
    obtain ⟨o1, b, h2, he⟩ := also_ok he
    obtain ⟨h3, he⟩ := need_ok he
    have g1 := hf _ _ _ h2
    have g3 := isTk_in h3 (by decide)
    simp only [PR.ok.injEq] at he
    obtain ⟨rfl, rfl⟩ := he
    omega
  split at he
  · exact compP_good T i o a he
  rename_i hk
  have g0 := tkAt_in (T := T) (i := i) (by omega)
  split at he
  · obtain ⟨o1, b, h2, he⟩ := also_ok he
    have g1 := hs _ _ _ h2
    simp only [PR.ok.injEq] at he
    obtain ⟨rfl, rfl⟩ := he
    simp only [List.length_append, List.length_cons, List.length_nil]
    omega
  split at he
  · cases he
  split at he
  · exact ⟨g0.1, untilP_good hf _ _ _ _ he⟩
  split at he
  · exact ⟨g0.1, untilP_good hf _ _ _ _ he⟩
  split at he
  · exact ⟨g0.1, atomP_good T prop i o a g0 he⟩
  · obtain ⟨o1, b, h2, he⟩ := also_ok he
    have g1 := hs _ _ _ h2
    simp only [PR.ok.injEq] at he
    obtain ⟨rfl, rfl⟩ := he
    simp only [List.length_append, List.length_cons, List.length_nil]
    omega
theorem formP_good {T : List Tk} {sg form : Int → PR} (hs : Good T sg) (hf : Good T form) : Good T (formP T sg form) := by
  intro i o a he
  unfold formP at he
  obtain ⟨o1, b, h1, he⟩ := also_ok he
  have g1 := rowsP_good (rowsP_good hs wAnd 16) wOr 17 _ _ _ h1
  split at he
  · obtain ⟨o2, c, h2, he⟩ := also_ok he
    have g2 := hf _ _ _ h2
    simp only [PR.ok.injEq] at he
    obtain ⟨rfl, rfl⟩ := he
    simp only [List.length_append, List.length_cons, List.length_nil]
    omega
  · simp only [PR.ok.injEq] at he
    obtain ⟨rfl, rfl⟩ := he
    omega
theorem both_good (T : List Tk) (prop : Bool) : ∀ n, Good T (bothP T prop n).1 ∧ Good T (bothP T prop n).2
  | 0 => ⟨fun i o a h => (by have h : badP T i 5 = .ok o a := h; cases h), fun i o a h => (by have h : badP T i 5 = .ok o a := h; cases h)⟩
  | n + 1 => by
    have ih := both_good T prop n
    have hs := signP_good (prop := prop) ih.1 ih.2
    exact ⟨hs, formP_good hs ih.2⟩

end Go.Proofs.YthlofmnmacpogaaGreatDoor

namespace Go.Proofs.YthlofmnmacpogaaGreatDoor
open Go.RowKit

/-- a closure that reads what one says, in whatever world comes of w -/
def OneOK (fn : Nat) (caps : Array Value) (w : World) (B b : Nat) (lv : Value) (T : List Tk) (prop : Bool) (one : Int → PR) : Prop :=
  ∀ (w' : World) (ov : Value) (O : List It) (l c i : Int), Lib.OthersKept 87 (some b) w w' → Below B w w' → Cr w' B b lv T i prop ov O 0 l c → -9223372036854775808 ≤ i → i ≤ 1000000 → (O.length : Int) ≤ max i 0 →
    Calls Tryz.prog fn caps w' (CRes w' B b lv T prop O (one i))

def posOf (W : World) (b : Nat) : Nat := match W.cell? ⟨b, 1, none⟩ with
  | some (.int _ z) => z.toNat
  | _ => 0
theorem Cr.pos {w : World} {B b : Nat} {lv : Value} {T : List Tk} {i : Int} {prop : Bool} {ov : Value} {O : List It} {er line col : Int} (h : Cr w B b lv T i prop ov O er line col) : posOf w b = i.toNat := by
  unfold posOf; rw [h.facts.2.1]
theorem Cr.len {w : World} {B b : Nat} {lv : Value} {T : List Tk} {i : Int} {prop : Bool} {ov : Value} {O : List It} {er line col : Int} (h : Cr w B b lv T i prop ov O er line col) : T.length ≤ 1000000 := by
  obtain ⟨_, _, _, hl, _⟩ := h.tk; exact hl

set_option maxRecDepth 100000 in
set_option maxHeartbeats 4000000 in
theorem rowOr_any (p1 p2 : Nat) {w : World} {B b : Nat} {lv : Value} {T : List Tk} {i : Int} {prop : Bool} {ov : Value} {O : List It} {line col : Int} (one : Int → PR) (hgood : Good T one) (h : Cr w B b lv T i prop ov O 0 line col) (hB : B ≤ w.heap.size) (hlo : -9223372036854775808 ≤ i) (hhi : i ≤ 1000000) (hO : (O.length : Int) ≤ max i 0)
    (deep : Int) (wd : ByteArray) (op : Int) (hone : OneOK 119 #[.pointer (some ⟨p1, 0, none⟩), .pointer (some ⟨p2, 0, none⟩)] w B b lv T prop one) :
    Calls Tryz.prog 118 #[.pointer (some ⟨b, 0, none⟩), .int .i64 deep, .string wd, .int .i64 op, .func (.func 119) #[] #[.pointer (some ⟨p1, 0, none⟩), .pointer (some ⟨p2, 0, none⟩)]] w (CRes w B b lv T prop O (rowsP T one wd op i)) := by
  have HR := Lib.hid h
  have HF := Lib.hid hone
  have HG := Lib.hid hgood
  have hTl := h.len
  clear h hone hgood
  cases hp : one i with
  | bad er l c =>
    have HP : Hid (rowsP T one wd op i = .bad er l c) := by unfold Hid rowsP; rw [hp]; rfl
    have HQ := Lib.hid hp
    clear hp
    go_enter Tryz.func118, Tryz.ntmps118
    go_wp2_with fail
    refine (HF.out w ov O line col i (Lib.OthersKept.refl _ _ _) (Below.refl _ _) HR.out hlo hhi hO).mono ?_
    rw [HQ.out]
    rintro e w1 ⟨rfl, ov1, O1, i1, ht⟩
    have HT := Lib.hid ht
    clear ht
    go_wp2
    go_ret
    exact CRes.bad HP.out rfl HT.out
  | ok o a =>
    have hg := HG.out i o a hp
    have HP : Hid (rowsP T one wd op i = rowP T one wd op (T.length + 1) a o) := by unfold Hid rowsP; rw [hp]; rfl
    have HQ := Lib.hid hp
    clear hp
    go_enter Tryz.func118, Tryz.ntmps118
    go_wp2_with fail
    refine (HF.out w ov O line col i (Lib.OthersKept.refl _ _ _) (Below.refl _ _) HR.out hlo hhi hO).mono ?_
    rw [HQ.out]
    rintro e w1 ⟨rfl, ov1, l1, c1, ht⟩
    have HT := Lib.hid ht
    have hOa : ((O ++ o).length : Int) ≤ a := by rw [List.length_append]; omega
    have HOA := Lib.hid hOa
    clear ht hOa
    go_wp2
    go_loopw [11] (fun _ wr => ∃ (k : Nat) (j : Int) (out : List It) (ov2 : Value) (l2 c2 : Int), Hid (CTook w wr B b lv T j prop ov2 (O ++ out) 0 l2 c2 ∧ rowsP T one wd op i = rowP T one wd op k j out ∧ 1 ≤ j ∧ j ≤ T.length ∧ (T.length : Int) < j + k ∧ ((O ++ out).length : Int) ≤ j)) (fun _ wr => T.length + 1 - posOf wr b)
    case atStart => exact ⟨T.length + 1, a, o, ov1, l1, c1, HT.out, HP.out, by omega, by omega, by omega, HOA.out⟩
    case round =>
      clear HT HOA
      obtain ⟨k, j, out, ov2, l2, c2, HA⟩ := hrel
      obtain ⟨htk, hrow, hj1, hjT, hjk, hoj⟩ := HA.out
      have HTK := Lib.hid htk
      have HRW := Lib.hid hrow
      have HOJ := Lib.hid hoj
      have hpos := Lib.hid htk.rd.pos
      have hbl := htk.rd.lt
      have hBr := Nat.le_trans hB htk.low.size
      clear htk hrow hoj HA
      obtain ⟨x, hx⟩ : ∃ x, tkAt T j = x := ⟨_, rfl⟩
      have HX := Lib.hid hx
      have hfd : ∀ w : World, (Instr.field 48 (.agg #[.int .i64 x.kind, .string x.text, .int .i64 x.num, .int .i64 x.line, .int .i64 x.col]) 3).run Tryz.prog w = .ok (.agg #[.int .i64 x.line, .int .i64 x.col]) w := fun _ => by kernel_rfl
      obtain ⟨q, hq⟩ : ∃ q, isTk T j 2 wd = q := ⟨_, rfl⟩
      have HQ2 := Lib.hid hq
      clear hx hq
      go_wp2_with fail
      refine (now_any HTK.out.rd).mono ?_
      rintro e wa ⟨rfl, hba⟩
      rw [HX.out]
      unfold tokV
      have HC1 := Lib.hid ((HTK.out.then hba hB).alloc hB (.cells #[.int .i64 x.line, .int .i64 x.col] 26))
      have HP1 := Lib.hid (show PsB (wa.alloc (.cells #[.int .i64 x.line, .int .i64 x.col] 26)) wa.heap.size x.line x.col from heap_alloc_new wa _)
      have hbs := hba.size
      clear hba
      go_wp2_with fail
      refine (ctake_any HC1.out.rd (Nat.le_trans hB HC1.out.low.size) 2 wd (by omega) (by omega)).mono ?_
      rw [HQ2.out]
      rintro e wb ⟨rfl, hcb⟩
      cases q
      · have HF1 := Lib.hid (HC1.out.trans hcb)
        have HE : Hid (rowsP T one wd op i = .ok out j) := by
          unfold Hid
          rw [HRW.out]
          cases k with
          | zero => rfl
          | succ k => rw [rowP, HQ2.out]; rfl
        clear hcb
        go_wp2
        go_ret
        exact CRes.ok HE.out rfl HF1.out
      · have hin := isTk_in HQ2.out (by decide)
        obtain ⟨k, rfl⟩ : ∃ k', k = k' + 1 := ⟨k - 1, by omega⟩
        have HF1 := Lib.hid (show CTook w wb B b lv T (j + 1) prop ov2 (O ++ out) 0 l2 c2 from HC1.out.trans hcb)
        have hpb := HP1.out.kept hcb.kept (by omega)
        have HPB := Lib.hid hpb
        clear hcb hpb
        cases hp2 : one (j + 1) with
        | bad er l c =>
          have HE : Hid (rowsP T one wd op i = .bad er l c) := by unfold Hid; rw [HRW.out, rowP, HQ2.out, if_pos rfl, hp2]; rfl
          have HQ3 := Lib.hid hp2
          clear hp2
          go_wp2_with fail
          refine (HF.out wb ov2 (O ++ out) l2 c2 (j + 1) HF1.out.kept HF1.out.low HF1.out.rd (by omega) (by omega) (by have := HOJ.out; omega)).mono ?_
          rw [HQ3.out]
          rintro e wc ⟨rfl, ov3, O3, i3, htc⟩
          have HT := Lib.hid (HF1.out.trans htc)
          clear htc
          go_wp2
          go_ret
          exact CRes.bad HE.out rfl HT.out
        | ok o2 a2 =>
          have hg2 := HG.out _ _ _ hp2
          have HE : Hid (rowsP T one wd op i = rowP T one wd op k a2 (out ++ o2 ++ [item op x])) := by unfold Hid; rw [HRW.out, rowP, HQ2.out, if_pos rfl, hp2, HX.out]; rfl
          have HQ3 := Lib.hid hp2
          clear hp2
          go_wp2_with fail
          refine (HF.out wb ov2 (O ++ out) l2 c2 (j + 1) HF1.out.kept HF1.out.low HF1.out.rd (by omega) (by omega) (by have := HOJ.out; omega)).mono ?_
          rw [HQ3.out]
          rintro e wc ⟨rfl, ov3, l3, c3, htc⟩
          have hpc := HPB.out.kept htc.kept (by omega)
          obtain ⟨q0, q1⟩ := hpc.facts
          have hll : (((O ++ out) ++ o2).length : Int) ≤ a2 - 1 := by have := HOJ.out; rw [List.length_append]; omega
          have hLL := Lib.hid hll
          have HT := Lib.hid (HF1.out.trans htc)
          have hlx : ((O ++ out) ++ o2).length ≤ 1000000 := by omega
          clear htc hpc hll
          go_wp2_with fail
          refine (put_any HT.out.rd (Nat.le_trans hB HT.out.low.size) hlx _ _ _ _ _ _ _ _ _ _ _).mono ?_
          rintro e wd' ⟨rfl, ov4, hpd⟩
          have HFIN := Lib.hid (show CTook w wd' B b lv T a2 prop ov4 (O ++ (out ++ o2 ++ [item op x])) 0 l3 c3 by
            have := HT.out.trans hpd
            rw [List.append_assoc, List.append_assoc] at this
            rw [List.append_assoc]; exact this)
          have hpe := Lib.hid hpd.rd.pos
          clear hpd
          go_wp2
          go_roundw
          case rel =>
            refine ⟨k, a2, out ++ o2 ++ [item op x], ov4, l3, c3, HFIN.out, HE.out, by omega, by omega, by omega, ?_⟩
            have := hLL.out
            simp only [List.length_append, List.length_cons, List.length_nil] at this ⊢
            omega
          case measure =>
            rw [hpe.out, hpos.out]; omega

set_option maxRecDepth 100000 in
set_option maxHeartbeats 4000000 in
theorem rowAnd_any (p1 p2 : Nat) {w : World} {B b : Nat} {lv : Value} {T : List Tk} {i : Int} {prop : Bool} {ov : Value} {O : List It} {line col : Int} (one : Int → PR) (hgood : Good T one) (h : Cr w B b lv T i prop ov O 0 line col) (hB : B ≤ w.heap.size) (hlo : -9223372036854775808 ≤ i) (hhi : i ≤ 1000000) (hO : (O.length : Int) ≤ max i 0)
    (deep : Int) (wd : ByteArray) (op : Int) (hone : OneOK 120 #[.pointer (some ⟨p1, 0, none⟩), .pointer (some ⟨p2, 0, none⟩)] w B b lv T prop one) :
    Calls Tryz.prog 118 #[.pointer (some ⟨b, 0, none⟩), .int .i64 deep, .string wd, .int .i64 op, .func (.func 120) #[] #[.pointer (some ⟨p1, 0, none⟩), .pointer (some ⟨p2, 0, none⟩)]] w (CRes w B b lv T prop O (rowsP T one wd op i)) := by
  have HR := Lib.hid h
  have HF := Lib.hid hone
  have HG := Lib.hid hgood
  have hTl := h.len
  clear h hone hgood
  cases hp : one i with
  | bad er l c =>
    have HP : Hid (rowsP T one wd op i = .bad er l c) := by unfold Hid rowsP; rw [hp]; rfl
    have HQ := Lib.hid hp
    clear hp
    go_enter Tryz.func118, Tryz.ntmps118
    go_wp2_with fail
    refine (HF.out w ov O line col i (Lib.OthersKept.refl _ _ _) (Below.refl _ _) HR.out hlo hhi hO).mono ?_
    rw [HQ.out]
    rintro e w1 ⟨rfl, ov1, O1, i1, ht⟩
    have HT := Lib.hid ht
    clear ht
    go_wp2
    go_ret
    exact CRes.bad HP.out rfl HT.out
  | ok o a =>
    have hg := HG.out i o a hp
    have HP : Hid (rowsP T one wd op i = rowP T one wd op (T.length + 1) a o) := by unfold Hid rowsP; rw [hp]; rfl
    have HQ := Lib.hid hp
    clear hp
    go_enter Tryz.func118, Tryz.ntmps118
    go_wp2_with fail
    refine (HF.out w ov O line col i (Lib.OthersKept.refl _ _ _) (Below.refl _ _) HR.out hlo hhi hO).mono ?_
    rw [HQ.out]
    rintro e w1 ⟨rfl, ov1, l1, c1, ht⟩
    have HT := Lib.hid ht
    have hOa : ((O ++ o).length : Int) ≤ a := by rw [List.length_append]; omega
    have HOA := Lib.hid hOa
    clear ht hOa
    go_wp2
    go_loopw [11] (fun _ wr => ∃ (k : Nat) (j : Int) (out : List It) (ov2 : Value) (l2 c2 : Int), Hid (CTook w wr B b lv T j prop ov2 (O ++ out) 0 l2 c2 ∧ rowsP T one wd op i = rowP T one wd op k j out ∧ 1 ≤ j ∧ j ≤ T.length ∧ (T.length : Int) < j + k ∧ ((O ++ out).length : Int) ≤ j)) (fun _ wr => T.length + 1 - posOf wr b)
    case atStart => exact ⟨T.length + 1, a, o, ov1, l1, c1, HT.out, HP.out, by omega, by omega, by omega, HOA.out⟩
    case round =>
      clear HT HOA
      obtain ⟨k, j, out, ov2, l2, c2, HA⟩ := hrel
      obtain ⟨htk, hrow, hj1, hjT, hjk, hoj⟩ := HA.out
      have HTK := Lib.hid htk
      have HRW := Lib.hid hrow
      have HOJ := Lib.hid hoj
      have hpos := Lib.hid htk.rd.pos
      have hbl := htk.rd.lt
      have hBr := Nat.le_trans hB htk.low.size
      clear htk hrow hoj HA
      obtain ⟨x, hx⟩ : ∃ x, tkAt T j = x := ⟨_, rfl⟩
      have HX := Lib.hid hx
      have hfd : ∀ w : World, (Instr.field 48 (.agg #[.int .i64 x.kind, .string x.text, .int .i64 x.num, .int .i64 x.line, .int .i64 x.col]) 3).run Tryz.prog w = .ok (.agg #[.int .i64 x.line, .int .i64 x.col]) w := fun _ => by kernel_rfl
      obtain ⟨q, hq⟩ : ∃ q, isTk T j 2 wd = q := ⟨_, rfl⟩
      have HQ2 := Lib.hid hq
      clear hx hq
      go_wp2_with fail
      refine (now_any HTK.out.rd).mono ?_
      rintro e wa ⟨rfl, hba⟩
      rw [HX.out]
      unfold tokV
      have HC1 := Lib.hid ((HTK.out.then hba hB).alloc hB (.cells #[.int .i64 x.line, .int .i64 x.col] 26))
      have HP1 := Lib.hid (show PsB (wa.alloc (.cells #[.int .i64 x.line, .int .i64 x.col] 26)) wa.heap.size x.line x.col from heap_alloc_new wa _)
      have hbs := hba.size
      clear hba
      go_wp2_with fail
      refine (ctake_any HC1.out.rd (Nat.le_trans hB HC1.out.low.size) 2 wd (by omega) (by omega)).mono ?_
      rw [HQ2.out]
      rintro e wb ⟨rfl, hcb⟩
      cases q
      · have HF1 := Lib.hid (HC1.out.trans hcb)
        have HE : Hid (rowsP T one wd op i = .ok out j) := by
          unfold Hid
          rw [HRW.out]
          cases k with
          | zero => rfl
          | succ k => rw [rowP, HQ2.out]; rfl
        clear hcb
        go_wp2
        go_ret
        exact CRes.ok HE.out rfl HF1.out
      · have hin := isTk_in HQ2.out (by decide)
        obtain ⟨k, rfl⟩ : ∃ k', k = k' + 1 := ⟨k - 1, by omega⟩
        have HF1 := Lib.hid (show CTook w wb B b lv T (j + 1) prop ov2 (O ++ out) 0 l2 c2 from HC1.out.trans hcb)
        have hpb := HP1.out.kept hcb.kept (by omega)
        have HPB := Lib.hid hpb
        clear hcb hpb
        cases hp2 : one (j + 1) with
        | bad er l c =>
          have HE : Hid (rowsP T one wd op i = .bad er l c) := by unfold Hid; rw [HRW.out, rowP, HQ2.out, if_pos rfl, hp2]; rfl
          have HQ3 := Lib.hid hp2
          clear hp2
          go_wp2_with fail
          refine (HF.out wb ov2 (O ++ out) l2 c2 (j + 1) HF1.out.kept HF1.out.low HF1.out.rd (by omega) (by omega) (by have := HOJ.out; omega)).mono ?_
          rw [HQ3.out]
          rintro e wc ⟨rfl, ov3, O3, i3, htc⟩
          have HT := Lib.hid (HF1.out.trans htc)
          clear htc
          go_wp2
          go_ret
          exact CRes.bad HE.out rfl HT.out
        | ok o2 a2 =>
          have hg2 := HG.out _ _ _ hp2
          have HE : Hid (rowsP T one wd op i = rowP T one wd op k a2 (out ++ o2 ++ [item op x])) := by unfold Hid; rw [HRW.out, rowP, HQ2.out, if_pos rfl, hp2, HX.out]; rfl
          have HQ3 := Lib.hid hp2
          clear hp2
          go_wp2_with fail
          refine (HF.out wb ov2 (O ++ out) l2 c2 (j + 1) HF1.out.kept HF1.out.low HF1.out.rd (by omega) (by omega) (by have := HOJ.out; omega)).mono ?_
          rw [HQ3.out]
          rintro e wc ⟨rfl, ov3, l3, c3, htc⟩
          have hpc := HPB.out.kept htc.kept (by omega)
          obtain ⟨q0, q1⟩ := hpc.facts
          have hll : (((O ++ out) ++ o2).length : Int) ≤ a2 - 1 := by have := HOJ.out; rw [List.length_append]; omega
          have hLL := Lib.hid hll
          have HT := Lib.hid (HF1.out.trans htc)
          have hlx : ((O ++ out) ++ o2).length ≤ 1000000 := by omega
          clear htc hpc hll
          go_wp2_with fail
          refine (put_any HT.out.rd (Nat.le_trans hB HT.out.low.size) hlx _ _ _ _ _ _ _ _ _ _ _).mono ?_
          rintro e wd' ⟨rfl, ov4, hpd⟩
          have HFIN := Lib.hid (show CTook w wd' B b lv T a2 prop ov4 (O ++ (out ++ o2 ++ [item op x])) 0 l3 c3 by
            have := HT.out.trans hpd
            rw [List.append_assoc, List.append_assoc] at this
            rw [List.append_assoc]; exact this)
          have hpe := Lib.hid hpd.rd.pos
          clear hpd
          go_wp2
          go_roundw
          case rel =>
            refine ⟨k, a2, out ++ o2 ++ [item op x], ov4, l3, c3, HFIN.out, HE.out, by omega, by omega, by omega, ?_⟩
            have := hLL.out
            simp only [List.length_append, List.length_cons, List.length_nil] at this ⊢
            omega
          case measure =>
            rw [hpe.out, hpos.out]; omega

end Go.Proofs.YthlofmnmacpogaaGreatDoor
