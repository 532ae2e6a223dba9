/- eval: caught, the deferred closure of Sides. eval: Sides, at the closure of Holds; Holds. Contracts of List of bits and warderref14, and of In and Sum of warderref14. Contracts of Put, Of, Count, Within, First and Same. A model's place in memory. The cells of one element of a model's rows (printed by gen_rw.py). -/
import Derived.Test.YtadjnfpomjopkaaGreatSm10
import Derived.Recover
import Derived.Test.YtadjnfpomjopkaaGreatSm06
import Derived.Test.YtadjnfpomjopkaaGreatSm03
import Derived.Test.YtadjnfpomjopkaaGreatSm05

namespace Go.Proofs.YtadjnfpomjopkaaGreat
open Go.RowKit

theorem askL_app (s : Sta) (b : List Ins) : ∀ (a : List Ins) (R : List Bool), askL s (a ++ b) R = match askL s a R with | some S => askL s b S | none => none
  | [], R => rfl
  | y :: a, R => by
    rw [List.cons_append, askL, askL]
    cases askS s y R with
    | none => rfl
    | some S => exact askL_app s b a S
theorem askL_stop {s : Sta} {l : List Ins} {k : Nat} (h : askL s (l.take k) [] = none) : askL s l [] = none := by
  have := askL_app s (l.drop k) (l.take k) []
  rw [List.take_append_drop, h] at this
  exact this
theorem askL_next {s : Sta} {l : List Ins} {k : Nat} {x : Ins} {R : List Bool} (hx : l[k]? = some x) (h : askL s (l.take k) [] = some R) : askL s (l.take (k + 1)) [] = askS s x R := by
  rw [List.take_add_one, hx]
  show askL s (l.take k ++ [x]) [] = _
  rw [askL_snoc, h]
def condV (o : Option Bool) : Value := match o with | some b => .tuple #[.bool b, .int .i64 0] | none => .tuple #[.bool false, .int .i64 17]

/-- the two results' places -/
def OkB (w : World) (p q : Nat) (b : Bool) (n : Int) : Prop := Blk w p #[.bool b] 4 ∧ Blk w q #[.int .i64 n] 68
theorem caught_nil (w : World) (p q : Nat) :
    Calls Tryz.prog 110 #[.pointer (some ⟨p, 0, none⟩), .pointer (some ⟨q, 0, none⟩), .nilIface] w fun e w' => e = .returned (.tuple #[]) ∧ w' = w := by
  go_enter Tryz.func110, Tryz.ntmps110
  go_wp2
  refine bodyPost_ret (results_none rfl _ _ _) rfl ?_
  exact ⟨rfl, rfl⟩
set_option maxHeartbeats 1000000 in
theorem caught_lost {w : World} {p q base : Nat} {b : Bool} {n : Int} (h : OkB w p q b n) (hp : base ≤ p) (hpq : p < q) :
    Calls Tryz.prog 110 #[.pointer (some ⟨p, 0, none⟩), .pointer (some ⟨q, 0, none⟩), lostV] w fun e w' => e = .returned (.tuple #[]) ∧ OkB w' p q false 17 ∧ Below base w w' := by
  unfold lostV
  obtain ⟨hb, hq⟩ := h
  have hql := hq.lt
  obtain ⟨W1, hW1⟩ : ∃ W1, w.alloc (.cells #[] 158) = W1 := ⟨_, rfl⟩
  have hb1 : Below w.heap.size w W1 := by rw [← hW1]; exact (Below.refl _ w).alloc (Nat.le_refl _) _
  have x0 := hb.keep hb1
  have x1 := hq.keep hb1
  have c0 := x0.cell (i := 0) rfl
  have f0 := x0.free 0
  have c1 : (W1.setCell ⟨p, 0, none⟩ (.bool false)).cell? ⟨q, 0, none⟩ = some (.int .i64 n) := (x1.other (by omega) (.bool false)).cell rfl
  have f1 : (W1.setCell ⟨p, 0, none⟩ (.bool false)).frozen? ⟨q, 0, none⟩ = false := (x1.other (by omega) (.bool false)).free 0
  have HX0 := Lib.hid x0
  have HX1 := Lib.hid x1
  have HB1 := Lib.hid (hb1.mono (show base ≤ w.heap.size by omega))
  have hta := as_lost
  clear hb hq hb1 x0 x1
  go_enter Tryz.func110, Tryz.ntmps110
  go_wp2
  go_end0
  refine ⟨rfl, ⟨?_, ?_⟩, (HB1.out.setCell (p := ⟨p, 0, none⟩) hp _).setCell (p := ⟨q, 0, none⟩) (by show base ≤ q; omega) _⟩
  · exact (HX0.out.store 0 (.bool false)).other (by omega) _
  · exact (HX1.out.other (by omega) _).store 0 _
theorem sides_idle (w : World) (p q : Nat) :
    CallsD Tryz.prog 109 #[.pointer (some ⟨p, 0, none⟩), .pointer (some ⟨q, 0, none⟩)] .returning w fun e u' w' => e = .returned (.tuple #[]) ∧ u' = .returning ∧ w' = w := by
  refine callsD_of_wpS Tryz.func109 rfl fun c₀ cs hu => ?_
  apply wpS_region
  simp [wpOpsS, go_sem, recoverD, hu, Tryz.ntmps109]
  refine (caught_nil w p q).mono ?_
  rintro e w' ⟨rfl, rfl⟩
  cases c₀
  simp_all [bodyPostS, results, Tryz.results109]
theorem sides_catch {w : World} {p q base : Nat} {b : Bool} {n : Int} (h : OkB w p q b n) (hp : base ≤ p) (hpq : p < q) :
    CallsD Tryz.prog 109 #[.pointer (some ⟨p, 0, none⟩), .pointer (some ⟨q, 0, none⟩)] (.panicking [{ v := lostV, recovered := false }]) w fun e u' w' => e = .returned (.tuple #[]) ∧ u' = .panicking [{ v := lostV, recovered := true }] ∧ OkB w' p q false 17 ∧ Below base w w' := by
  refine callsD_of_wpS Tryz.func109 rfl fun c₀ cs hu => ?_
  apply wpS_region
  simp [wpOpsS, go_sem, recoverD, hu, Tryz.ntmps109]
  refine (caught_lost h hp hpq).mono ?_
  rintro e w' ⟨rfl, h1, h2⟩
  cases c₀
  simp_all [bodyPostS, results, Tryz.results109]
end Go.Proofs.YtadjnfpomjopkaaGreat

namespace Go.Proofs.YtadjnfpomjopkaaGreat
open Go.RowKit

theorem askS_len {s : Sta} {x : Ins} {R S : List Bool} (h : askS s x R = some S) : S.length ≤ R.length + 1 := by
  unfold askS at h
  split at h
  · cases R with
    | nil => cases h
    | cons a T => cases h; simp
  split at h
  · rcases R with _ | ⟨r, _ | ⟨l, T⟩⟩
    · cases h
    · cases h
    · cases h; simp
  · split at h
    · cases h; simp
    · cases h

set_option maxRecDepth 100000 in
set_option maxHeartbeats 4000000 in
theorem sides_any {w : World} {v0 v3 v4 vl : Value} {s : Sta} {l : List Ins} {sb : Nat} (hs : StR w v0 v3 v4 s) (hsb : Blk w sb #[v0, .int .i64 s.opn, .int .i64 s.dne, v3, v4] 44) (hl : RowE instE 7 w vl l) (hll : l.length ≤ 10000) :
    Calls Tryz.prog 98 #[vl, lessF sb, .agg #[v0, .int .i64 s.opn, .int .i64 s.dne, v3, v4]] w fun e w' => e = .returned (condV (condO l s)) ∧ Below w.heap.size w w' := by
  have hmf : ∀ (fn : Fn) (first cap : Array Value) (w : World), (Instr.makeFunc fn first cap).run Tryz.prog w = .ok (.func fn first cap) w := fun _ _ _ _ => rfl
  have hnf : ∀ W, Sem.run Tryz.prog (binOp .eql 144 (.func (.func 99) #[] #[.pointer (some ⟨sb, 0, none⟩)]) .nilFunc) W = .ok (.bool false) W := fun W => by rfl
  obtain ⟨ad, cap, hvl⟩ := hl.len
  subst hvl
  obtain ⟨W1, hW1⟩ : ∃ W1, w.alloc (.cells #[v0, .int .i64 s.opn, .int .i64 s.dne, v3, v4] 44) = W1 := ⟨_, rfl⟩
  obtain ⟨W2, hW2⟩ : ∃ W2, W1.alloc (.cells #[.bool false] 4) = W2 := ⟨_, rfl⟩
  obtain ⟨W3, hW3⟩ : ∃ W3, W2.alloc (.cells #[.int .i64 0] 68) = W3 := ⟨_, rfl⟩
  have hb1 : Below w.heap.size w W1 := by rw [← hW1]; exact (Below.refl _ w).alloc (Nat.le_refl _) _
  have hb2 : Below w.heap.size w W2 := by rw [← hW2]; exact hb1.alloc hb1.size _
  have hb3 : Below w.heap.size w W3 := by rw [← hW3]; exact hb2.alloc hb2.size _
  have hs1 : W1.heap.size = w.heap.size + 1 := by rw [← hW1]; simp
  have hs2 : W2.heap.size = w.heap.size + 2 := by rw [← hW2]; simp [hs1]
  have x1 : Blk W3 w.heap.size #[v0, .int .i64 s.opn, .int .i64 s.dne, v3, v4] 44 := by rw [← hW3, ← hW2, ← hW1]; exact ((Blk.new _ _ _).alloc _).alloc _
  have x2 : Blk W3 W1.heap.size #[.bool false] 4 := by rw [← hW3, ← hW2]; exact (Blk.new _ _ _).alloc _
  have x3 : Blk W3 W2.heap.size #[.int .i64 0] 68 := by rw [← hW3]; exact Blk.new _ _ _
  have HSH := Lib.hid (shape_any (hl.below instE_keep hb3) hll)
  have HX := Lib.hid (And.intro x1 (And.intro x2 x3))
  have HB3 := Lib.hid hb3
  have HS := Lib.hid (And.intro hs (And.intro hsb hl))
  have HSZ := Lib.hid (And.intro hs1 hs2)
  clear hs hsb hl hb1 hb2 hb3 hs1 hs2 x1 x2 x3
  unfold lessF
  go_enter_defers Tryz.func98, Tryz.ntmps98
  go_wp2_with fail
  refine HSH.out.mono ?_
  rintro e w4 ⟨v4', rfl, hrow, hb4⟩
  have HIT := Lib.hid (ItIn.of_row hrow)
  have HB4 := Lib.hid hb4
  clear hrow hb4
  go_wp2_with fail
  refine (check_all HIT.out).mono ?_
  rintro e w5 ⟨rfl, hb5⟩
  have HB5 := Lib.hid (HB4.out.trans (hb5.mono HB4.out.size))
  obtain ⟨c, hc⟩ : ∃ c, chkN (l.map itI) = c := ⟨_, rfl⟩
  rw [hc]
  have HC := Lib.hid hc
  clear hb5 hc HIT HB4
  have hbw5 : Below w.heap.size w w5 := HB3.out.trans (HB5.out.mono HB3.out.size)
  have y1 := HX.out.1.keep HB5.out
  have y2 := HX.out.2.1.keep HB5.out
  have y3 := HX.out.2.2.keep HB5.out
  have hlt1 := y2.lt
  have hlt2 := y3.lt
  have HB := Lib.hid hbw5
  have HY := Lib.hid (And.intro y2 y3)
  have HLT := Lib.hid (And.intro hlt1 hlt2)
  have HLW : Hid (w.heap.size ≤ W1.heap.size ∧ W1.heap.size < W2.heap.size) := by have := HSZ.out; exact ⟨by omega, by omega⟩
  by_cases h0 : c = 0
  · subst h0
    have e0 := y1.cell (i := 0) rfl
    have e1 := y1.cell (i := 1) rfl
    have e2 := y1.cell (i := 2) rfl
    have e3 := y1.cell (i := 3) rfl
    have e4 := y1.cell (i := 4) rfl
    obtain ⟨W6, hW6⟩ : ∃ W6, w5.alloc (.cells #[v0, .int .i64 s.opn, .int .i64 s.dne, v3, v4, .func (.func 99) #[] #[.pointer (some ⟨sb, 0, none⟩)], .slice none 0 0] 154) = W6 := ⟨_, rfl⟩
    have hb6 : Below w5.heap.size w5 W6 := by rw [← hW6]; exact (Below.refl _ w5).alloc (Nat.le_refl _) _
    have HB6 := Lib.hid hb6
    have HAK : Hid (AkW w W6 w5.heap.size sb v0 v3 v4 s []) := by
      refine ⟨⟨.slice none 0 0, ?_, World.ownsRow_nil _ _ _ _, hbw5.size⟩, hbw5.trans (hb6.mono hbw5.size), HS.out.1, HS.out.2.1⟩
      rw [← hW6]; exact Blk.new _ _ _
    have HN : Hid (l.length ≤ 64) := by
      have := (chk_ok HC.out).2.1
      rwa [List.length_map] at this
    have HOK : Hid (OkB W6 W1.heap.size W2.heap.size false 0) := ⟨HY.out.1.keep hb6, HY.out.2.keep hb6⟩
    obtain ⟨n, hn⟩ : ∃ n, l.length = n := ⟨_, rfl⟩
    have HNL := Lib.hid hn
    rw [hn] at HS HN hll ⊢
    clear hbw5 y1 y2 y3 hlt1 hlt2 hb6 HSH hn
    go_wp2
    go_loopw [26] (fun i wr => ∃ (k : Nat) (R : List Bool), i = .int .i64 (k : Int) ∧ k ≤ n ∧ R.length ≤ k ∧ Hid (AkW w wr w5.heap.size sb v0 v3 v4 s R ∧ OthK W6 wr w5.heap.size ∧ askL s (l.take k) [] = some R)) (fun i _ => n - (intOf i).toNat)
    case atStart => exact ⟨0, [], rfl, Nat.zero_le _, Nat.zero_le _, HAK.out, OthK.of_below (Below.refl _ _), rfl⟩
    case round =>
      obtain ⟨k, R, rfl, hk, hR, HALL⟩ := hrel
      obtain ⟨hak, hoth, hask⟩ := HALL.out
      rcases Nat.lt_or_ge k n with hlt | hge
      · obtain ⟨x, hx⟩ : ∃ x, l[k]? = some x := ⟨_, List.getElem?_eq_getElem (by rw [HNL.out]; exact hlt)⟩
        have hi : RowE instE 7 wr (.slice ad n cap) l := HS.out.2.2.below instE_keep hak.low
        obtain ⟨b, off, c, hvv, hbl, a0, a1, a2, a3, a4, a5, a6⟩ := insRow hi hx
        simp only [Value.slice.injEq] at hvv
        obtain ⟨rfl, -, rfl⟩ := hvv
        have hkz : (k : Int) < (n : Int) := by omega
        obtain ⟨W7, hW7⟩ : ∃ W7, wr.alloc (.cells #[.int .i64 x.op, .int .i64 x.l.1, .int .i64 x.l.2, .int .i64 x.r.1, .int .i64 x.r.2, .int .i64 x.n, .int .i64 x.user] 37) = W7 := ⟨_, rfl⟩
        have hb7 : Below wr.heap.size wr W7 := by rw [← hW7]; exact (Below.refl _ wr).alloc (Nat.le_refl _) _
        have x7 : Blk W7 wr.heap.size #[.int .i64 x.op, .int .i64 x.l.1, .int .i64 x.l.2, .int .i64 x.r.1, .int .i64 x.r.2, .int .i64 x.n, .int .i64 x.user] 37 := by rw [← hW7]; exact Blk.new _ _ _
        have g0 := x7.cell (i := 0) rfl
        have g1 := x7.cell (i := 1) rfl
        have g2 := x7.cell (i := 2) rfl
        have g3 := x7.cell (i := 3) rfl
        have g4 := x7.cell (i := 4) rfl
        have g5 := x7.cell (i := 5) rfl
        have g6 := x7.cell (i := 6) rfl
        have hak7 : AkW w W7 w5.heap.size sb v0 v3 v4 s R := ⟨hak.ak.keep hb7, hak.low.trans (hb7.mono hak.low.size), hak.st, hak.box⟩
        have HL7 := Lib.hid hak7.low
        have HO7 := Lib.hid (hoth.trans (OthK.of_below (b := w5.heap.size) hb7))
        have HST := Lib.hid (astep_any hak7 (by have := HN.out; omega) x)
        have HNX := Lib.hid (askL_next hx hask)
        have HK := Lib.hid (And.intro hak.st hak.box)
        have HRN := Lib.hid (show R.length ≤ 900 by have := HN.out; omega)
        unfold insV at HST
        clear hak hoth hask hi hx HALL hb7 x7 hak7
        cases ho : askS s x R with
        | none =>
          rw [ho] at HST HNX
          have HRES : Hid (condV (condO l s) = .tuple #[.bool false, .int .i64 17]) := by
            unfold Hid condO
            rw [if_pos HC.out, askL_stop HNX.out]; rfl
          clear ho
          go_wp2_with fail
          refine HST.out.mono ?_
          rintro e w8 ⟨rfl, hB, hO⟩
          have HB8 := Lib.hid (HL7.out.trans hB)
          have HOK8 : Hid (OkB w8 W1.heap.size W2.heap.size false 0) := ⟨hO _ _ _ (by have := HLT.out; omega) (by decide) (HO7.out _ _ _ (by have := HLT.out; omega) (by decide) HOK.out.1), hO _ _ _ (by have := HLT.out; omega) (by decide) (HO7.out _ _ _ (by have := HLT.out; omega) (by decide) HOK.out.2)⟩
          clear hB hO
          refine leaves_cons (f := 109) (args := #[.pointer (some ⟨W1.heap.size, 0, none⟩), .pointer (some ⟨W2.heap.size, 0, none⟩)]) (by simp) (by simp [go_sem]) ?_
          refine (sides_catch HOK8.out (base := w.heap.size) HLW.out.1 HLW.out.2).mono ?_
          rintro e u' w9 ⟨rfl, rfl, hok9, hB9⟩
          have h9 := hok9.1.cell (i := 0) rfl
          have h10 := hok9.2.cell (i := 0) rfl
          have HF := Lib.hid (HB8.out.trans hB9)
          simp [Leaves, settle, results, Tryz.results98, go_sem, h9, h10]
          rw [HRES.out]
          exact ⟨rfl, HF.out⟩
        | some S =>
          rw [ho] at HST HNX
          have hSl := askS_len ho
          clear ho
          go_wp2_with fail
          refine HST.out.mono ?_
          rintro e w8 ⟨rfl, hA, hB, hO⟩
          have HA8 : Hid (AkW w w8 w5.heap.size sb v0 v3 v4 s S) := ⟨hA, HL7.out.trans hB, HK.out.1, HK.out.2⟩
          have HO8 := Lib.hid (HO7.out.trans hO)
          clear hA hB hO
          go_wp2_with fail
          go_roundw
          case rel => exact ⟨k + 1, S, by go_num, hlt, by omega, HA8.out, HO8.out, HNX.out⟩
          case measure => simp [intOf]; omega
      · have hkn : k = n := by omega
        subst hkn
        have hge' : ¬ (k : Int) < (k : Int) := by omega
        have hfull : askL s l [] = some R := by rw [List.take_of_length_le (by rw [HNL.out]; exact Nat.le_refl _)] at hask; exact hask
        have HL7 := Lib.hid hak.low
        have hok : OkB wr W1.heap.size W2.heap.size false 0 := ⟨hoth _ _ _ (by have := HLT.out; omega) (by decide) HOK.out.1, hoth _ _ _ (by have := HLT.out; omega) (by decide) HOK.out.2⟩
        cases R with
        | nil =>
          have HRES : Hid (condV (condO l s) = .tuple #[.bool false, .int .i64 17]) := by
            unfold Hid condO
            rw [if_pos HC.out, hfull]; rfl
          have HPN := Lib.hid (apop_none hak.ak)
          have HOK8 := Lib.hid hok
          have HB8 := Lib.hid hak.low
          clear hak hoth hask HALL hok hfull
          go_wp2_with fail
          refine HPN.out.mono ?_
          rintro e w8 ⟨rfl, rfl⟩
          refine leaves_cons (f := 109) (args := #[.pointer (some ⟨W1.heap.size, 0, none⟩), .pointer (some ⟨W2.heap.size, 0, none⟩)]) (by simp) (by simp [go_sem]) ?_
          refine (sides_catch HOK8.out (base := w.heap.size) HLW.out.1 HLW.out.2).mono ?_
          rintro e u' w9 ⟨rfl, rfl, hok9, hB9⟩
          have h9 := hok9.1.cell (i := 0) rfl
          have h10 := hok9.2.cell (i := 0) rfl
          have HF := Lib.hid (HB8.out.trans hB9)
          simp [Leaves, settle, results, Tryz.results98, go_sem, h9, h10]
          rw [HRES.out]
          exact ⟨rfl, HF.out⟩
        | cons t T =>
          have HRES : Hid (condV (condO l s) = .tuple #[.bool t, .int .i64 0]) := by
            unfold Hid condO
            rw [if_pos HC.out, hfull]; rfl
          have HPN := Lib.hid (apop_any hak.ak (by rw [List.length_cons] at hR; have := HN.out; omega))
          have HOK7 := Lib.hid hok
          clear hak hoth hask HALL hok hfull
          go_wp2_with fail
          refine HPN.out.mono ?_
          rintro e w8 ⟨rfl, hA, hB, hO⟩
          have o1 := hO _ _ _ (by have := HLT.out; omega) (by decide) HOK7.out.1
          have o2 := hO _ _ _ (by have := HLT.out; omega) (by decide) HOK7.out.2
          have p1 := o1.cell (i := 0) rfl
          have p2 := o1.free 0
          have o3 := o2.other (b := W2.heap.size) (g := W1.heap.size) (j := 0) (by have := HLW.out; omega) (.bool t)
          have p3 := o3.cell (i := 0) rfl
          have p4 := o3.free 0
          have HF := Lib.hid (((HL7.out.trans hB).setCell (p := ⟨W1.heap.size, 0, none⟩) HLW.out.1 (.bool t)).setCell (p := ⟨W2.heap.size, 0, none⟩) (by have := HLW.out; show w.heap.size ≤ W2.heap.size; omega) (.int .i64 0))
          have q1 := (o1.store 0 (.bool t)).other (b := W1.heap.size) (g := W2.heap.size) (j := 0) (by have := HLW.out; omega) (.int .i64 0)
          have h9 := q1.cell (i := 0) rfl
          have q2 := o3.store 0 (.int .i64 0)
          have h10 := q2.cell (i := 0) rfl
          clear hA hB hO o1 o2 o3 q1 q2
          go_wp2_with fail
          refine leaves_cons (f := 109) (args := #[.pointer (some ⟨W1.heap.size, 0, none⟩), .pointer (some ⟨W2.heap.size, 0, none⟩)]) (by simp) (by simp [go_sem]) ?_
          refine (sides_idle _ _ _).mono ?_
          rintro e u' w9 ⟨rfl, rfl, rfl⟩
          simp [Leaves, settle, results, Tryz.results98, go_sem, h9, h10]
          rw [HRES.out]
          exact ⟨rfl, HF.out⟩
  · have HRES : Hid (condV (condO l s) = .tuple #[.bool false, .int .i64 17]) := by
      unfold Hid condO
      rw [if_neg (by rw [HC.out]; exact h0)]; rfl
    have hcb : (c != 0) = true := by simpa using h0
    have p1 := y2.cell (i := 0) rfl
    have p2 := y2.free 0
    have o3 := y3.other (b := W2.heap.size) (g := W1.heap.size) (j := 0) (by have := HLW.out; omega) (.bool false)
    have p3 := o3.cell (i := 0) rfl
    have p4 := o3.free 0
    have HF := Lib.hid ((hbw5.setCell (p := ⟨W1.heap.size, 0, none⟩) HLW.out.1 (.bool false)).setCell (p := ⟨W2.heap.size, 0, none⟩) (by have := HLW.out; show w.heap.size ≤ W2.heap.size; omega) (.int .i64 17))
    have q1 := (y2.store 0 (.bool false)).other (b := W1.heap.size) (g := W2.heap.size) (j := 0) (by have := HLW.out; omega) (.int .i64 17)
    have h9 := q1.cell (i := 0) rfl
    have q2 := o3.store 0 (.int .i64 17)
    have h10 := q2.cell (i := 0) rfl
    clear hbw5 y1 y2 y3 o3 q1 q2 HSH
    go_wp2_with fail
    refine leaves_cons (f := 109) (args := #[.pointer (some ⟨W1.heap.size, 0, none⟩), .pointer (some ⟨W2.heap.size, 0, none⟩)]) (by simp) (by simp [go_sem]) ?_
    refine (sides_idle _ _ _).mono ?_
    rintro e u' w9 ⟨rfl, rfl, rfl⟩
    simp [Leaves, settle, results, Tryz.results98, go_sem, h9, h10]
    rw [HRES.out]
    exact ⟨rfl, HF.out⟩

set_option maxHeartbeats 1000000 in
theorem holds_any {w : World} {v0 v3 v4 vl : Value} {s : Sta} {l : List Ins} (hs : StR w v0 v3 v4 s) (hl : RowE instE 7 w vl l) (hll : l.length ≤ 10000) :
    Calls Tryz.prog 87 #[vl, .agg #[v0, .int .i64 s.opn, .int .i64 s.dne, v3, v4]] w fun e w' => e = .returned (condV (condO l s)) ∧ Below w.heap.size w w' := by
  have hmf : ∀ (fn : Fn) (first cap : Array Value) (w : World), (Instr.makeFunc fn first cap).run Tryz.prog w = .ok (.func fn first cap) w := fun _ _ _ _ => rfl
  obtain ⟨ad, cap, hvl⟩ := hl.len
  subst hvl
  obtain ⟨W1, hW1⟩ : ∃ W1, w.alloc (.cells #[v0, .int .i64 s.opn, .int .i64 s.dne, v3, v4] 44) = W1 := ⟨_, rfl⟩
  have hb1 : Below w.heap.size w W1 := by rw [← hW1]; exact (Below.refl _ w).alloc (Nat.le_refl _) _
  have x1 : Blk W1 w.heap.size #[v0, .int .i64 s.opn, .int .i64 s.dne, v3, v4] 44 := by rw [← hW1]; exact Blk.new _ _ _
  have HC := Lib.hid (sides_any (hs.below hb1) x1 (hl.below instE_keep hb1) hll)
  unfold lessF at HC
  have HB := Lib.hid hb1
  have e0 := x1.cell (i := 0) rfl
  have e1 := x1.cell (i := 1) rfl
  have e2 := x1.cell (i := 2) rfl
  have e3 := x1.cell (i := 3) rfl
  have e4 := x1.cell (i := 4) rfl
  clear hs hl hb1 x1
  obtain ⟨o, ho⟩ : ∃ o, condO l s = o := ⟨_, rfl⟩
  rw [ho] at HC ⊢
  clear ho
  cases o with
  | none =>
    unfold condV at HC ⊢
    go_enter Tryz.func87, Tryz.ntmps87
    go_wp2_with fail
    refine HC.out.mono ?_
    rintro e w2 ⟨rfl, hb2⟩
    have HB2 := Lib.hid (HB.out.trans (hb2.mono HB.out.size))
    clear hb2
    go_wp2
    go_ret2
    exact ⟨rfl, HB2.out⟩
  | some b =>
    unfold condV at HC ⊢
    go_enter Tryz.func87, Tryz.ntmps87
    go_wp2_with fail
    refine HC.out.mono ?_
    rintro e w2 ⟨rfl, hb2⟩
    have HB2 := Lib.hid (HB.out.trans (hb2.mono HB.out.size))
    clear hb2
    go_wp2
    go_ret2
    exact ⟨rfl, HB2.out⟩
end Go.Proofs.YtadjnfpomjopkaaGreat

namespace Go.Proofs.YtadjnfpomjopkaaGreat
open Go.RowKit

theorem info_int : (Tryz.prog.info? 3).map (fun i => (i.zero, i.size, i.bytes)) = some (some (.int .i64 0), 1, 8) := by kernel_rfl
theorem info_bool : (Tryz.prog.info? 4).map (fun i => (i.zero, i.size, i.bytes)) = some (some (.bool false), 1, 1) := by kernel_rfl

/-- what of the first k numbers is in a set -/
def listZ (s : Int) (k : Nat) : List Int := ((List.range k).filter (hasN s)).map fun j : Nat => (j : Int)

theorem listZ_len (s : Int) (k : Nat) : (listZ s k).length ≤ k := by
  unfold listZ; rw [List.length_map]; have := List.length_filter_le (hasN s) (List.range k); simpa using this
theorem listZ_hit (s : Int) (k : Nat) (hk : k < 31) (h : hasB s k = true) : listZ s (k + 1) = listZ s k ++ [(k : Int)] := by
  have : hasN s k = true := by unfold hasB at h; rw [if_pos (by omega)] at h; simpa using h
  unfold listZ; rw [List.range_succ, List.filter_append]; simp [this]
theorem listZ_miss (s : Int) (k : Nat) (hk : k < 31) (h : hasB s k = false) : listZ s (k + 1) = listZ s k := by
  have : hasN s k = false := by unfold hasB at h; rw [if_pos (by omega)] at h; simpa using h
  unfold listZ; rw [List.range_succ, List.filter_append]; simp [this]

def ints (l : List Int) : List Value := l.map (Value.int .i64)
theorem ints_len (l : List Int) : (ints l).length = l.length := by simp [ints]

def bools (l : List Bool) : List Value := l.map Value.bool
theorem bools_len (l : List Bool) : (bools l).length = l.length := by simp [bools]
def truths (s : Int) (k : Nat) : List Bool := (List.range k).map (hasN s)
theorem truths_len (s : Int) (k : Nat) : (truths s k).length = k := by simp [truths]
theorem truths_succ (s : Int) (k : Nat) (hk : k < 31) : truths s (k + 1) = truths s k ++ [hasB s k] := by
  have : hasB s k = hasN s k := by unfold hasB; rw [if_pos (by omega)]; simp
  rw [this]; simp [truths, List.range_succ]

set_option maxHeartbeats 1000000 in
theorem in_any (s : Int) (w : World) (hs0 : -9223372036854775808 ≤ s) (hs1 : s ≤ 9223372036854775807) :
    Calls Tryz.prog 70 #[.int .i64 s] w fun e w' => ∃ v, e = .returned v ∧ w'.ownsRow w.heap.size 4 1 v 31 (bools (truths s 31)) ∧ Below w.heap.size w w' := by
  go_enter Tryz.func70, Tryz.ntmps70
  go_wp2
  go_loopw [3, 4] (fun v i wr => ∃ k : Nat, k ≤ 31 ∧ i = .int .i64 k ∧ wr.ownsRow w.heap.size 4 1 v k (bools (truths s k)) ∧ Below w.heap.size w wr) (fun _ i _ => 31 - (intOf i).toNat)
  case atStart => exact ⟨0, Nat.zero_le _, rfl, World.ownsRow_nil _ _ _ _, Below.refl _ _⟩
  case round =>
    obtain ⟨k, hk, rfl, hown, hb⟩ := hrel
    have hsz := hb.size
    by_cases hlt : k < 31
    · have HM := Lib.hid (truths_succ s k hlt)
      go_wp2_with (first | (go_at_call 32; refine (rhas_any _ _ _ hs0 hs1).mono ?_; rintro e w' ⟨rfl, rfl⟩) | (at_builtin; refine app1 wr #[.bool (hasB s k)] rfl _ _ 123 rfl w.heap.size 4 (.bool false) 1 1 Tryz.underlying123 info_bool rfl (by decide) (by decide) _ _ _ rfl (by exact hown) rfl (by simp) rfl (by simp [Value.oneCell']) (by omega) hsz ?_; intro v' w1 hown' hg' hb'))
      go_roundw
      case rel => exact ⟨k + 1, by omega, by go_num, by rw [HM.out]; simpa [bools] using hown', hb.trans hb'⟩
      case measure => simp [intOf]; omega
    · obtain rfl : k = 31 := by omega
      go_wp2
      go_ret
      exact ⟨_, rfl, hown, hb⟩

theorem sum_step (l : List Bool) (k : Nat) (hk : k < l.length) : sumB (l.take (k + 1)) = sumB (l.take k) + (if l.getD k false then 2 ^ k else 0) := by
  rw [List.take_succ_eq_append_getElem hk, sumB_snoc]
  simp [hk, Nat.min_eq_left (Nat.le_of_lt hk)]

theorem pow31 (k : Nat) (hk : k ≤ 31) : 1 ≤ 2 ^ k ∧ 2 ^ k ≤ 2147483648 := by
  constructor
  · exact Nat.one_le_two_pow
  · have : (2 : Nat) ^ k ≤ 2 ^ 31 := Nat.pow_le_pow_right (by omega) hk
    simpa using this

set_option maxHeartbeats 1000000 in
theorem sum_any (v : Value) (l : List Bool) (w : World) (hl : l.length = 31) (hv : Reads w v (bools l)) :
    Calls Tryz.prog 73 #[v] w fun e w' => e = .returned (.int .i64 (sumB l : Nat)) ∧ w = w' := by
  rcases hv with ⟨ad, cap, rfl, h0⟩ | ⟨b, off, cap, rfl, _, _, hc⟩
  · have := bools_len l; rw [h0] at this; simp at this; omega
  · rw [bools_len, hl]
    have HC := Lib.hid hc; clear hc
    have HL := Lib.hid hl; clear hl
    go_enter Tryz.func73, Tryz.ntmps73
    go_wp2
    go_loop [3, 4, 5] (fun s p i => ∃ (k a q : Nat), k ≤ 31 ∧ i = .int .i64 k ∧ s = .int .i64 a ∧ p = .int .i64 q ∧ a < q ∧ q ≤ 2147483648 ∧ Hid (a = sumB (l.take k)) ∧ Hid (q = 2 ^ k)) (fun _ _ i => 31 - (intOf i).toNat)
    case atStart => exact ⟨0, 0, 1, Nat.zero_le _, rfl, rfl, rfl, by omega, by omega, by unfold Hid; simp [sumB], rfl⟩
    case round =>
      obtain ⟨k, a, q, hk, rfl, rfl, rfl, haq, hq, HA, HQ⟩ := hrel
      by_cases hlt : k < 31
      · have hlk : k < l.length := by have := HL.out; omega
        have HS : Hid (sumB (l.take (k + 1)) = a + (if l.getD k false then q else 0)) := by unfold Hid; rw [sum_step l k hlk, HA.out, HQ.out]
        have HQ' : Hid (2 * q = 2 ^ (k + 1)) := by unfold Hid; rw [HQ.out, Nat.pow_succ]; omega
        have hq' : 2 * q ≤ 2147483648 := by have := pow31 (k + 1) (by omega); rw [← HQ'.out] at this; exact this.2
        have hcell : w.cell? ⟨b, off + k, none⟩ = some (.bool (l.getD k false)) := HC.out k _ (by simp [bools, List.getElem?_eq_getElem hlk, List.getD_eq_getElem?_getD])
        clear hlk
        cases hb : l.getD k false
        all_goals
          rw [hb] at hcell HS
          clear hb
          go_wp2
          go_round
          case rel => exact ⟨k + 1, _, 2 * q, by omega, by go_num, rfl, int_eq (by omega), by first | omega | (simp; omega), hq', by unfold Hid; rw [HS.out]; simp, HQ'⟩
          case measure => simp [intOf]; omega
      · obtain rfl : k = 31 := by omega
        have HE : Hid (a = sumB l) := by unfold Hid; rw [HA.out, List.take_of_length_le (by have := HL.out; omega)]
        go_wp2
        go_ret
        exact ⟨ret_int (by rw [HE.out]), rfl⟩

end Go.Proofs.YtadjnfpomjopkaaGreat

namespace Go.Proofs.YtadjnfpomjopkaaGreat
open Go.RowKit

set_option maxHeartbeats 1000000 in
theorem put_any (s i : Int) (is : Bool) (w : World) (hs0 : -9223372036854775808 ≤ s) (hs1 : s ≤ 9223372036854775807) :
    Calls Tryz.prog 63 #[.int .i64 s, .int .i64 i, .bool is] w fun e w' => e = .returned (.int .i64 (putZ s i is)) ∧ Below w.heap.size w w' := by
  have HB := Lib.hid (truths_len s 31)
  by_cases h : 0 ≤ i ∧ i ≤ 30
  · obtain ⟨h0, h1⟩ := h
    obtain ⟨n, rfl⟩ := Int.eq_ofNat_of_zero_le h0
    have hn : n < 31 := by omega
    have HS := Lib.hid (set_truths s n is (by omega))
    go_enter Tryz.func63, Tryz.ntmps63
    go_wp2_with fail
    refine (in_any s _ hs0 hs1).mono ?_
    rintro e w1 ⟨v, rfl, hown, hb⟩
    obtain ⟨g, cap, rfl, hg, hgs⟩ := owns_shape hown (by omega)
    have hcell := World.ownsRow.cellAt hown n (by omega)
    have hfr := World.ownsRow.frozenAt hown n
    obtain ⟨bv, hbv⟩ : ∃ bv, (bools (truths s 31))[n]? = some bv := ⟨_, List.getElem?_eq_getElem (by rw [bools_len, HB.out]; exact hn)⟩
    rw [hbv] at hcell
    have hst := (World.ownsRow.stored hown n (.bool is)).1
    have hb' : Below w.heap.size w (w1.setCell ⟨g, n, none⟩ (.bool is)) := hb.setCell hg _
    rw [show (bools (truths s 31)).set n (.bool is) = bools ((truths s 31).set n is) by simp [bools, List.map_set]] at hst
    clear hbv hown hb
    have HST := Lib.hid hst; clear hst
    have HBL := Lib.hid hb'; clear hb'
    go_wp2_with (go_at_call 73; refine (sum_any _ ((truths s 31).set n is) _ (by rw [List.length_set]; exact HB.out) (Reads.of_owns HST.out)).mono ?_; rintro e w' ⟨rfl, rfl⟩)
    go_ret
    exact ⟨ret_int HS.out, HBL.out⟩
  · have h' : i < 0 ∨ 30 < i := by omega
    have HS : Hid (((sumB (truths s 31) : Nat) : Int) = putZ s i is) := by unfold Hid; rw [putZ_out s i is h', ← sum_truths]; rfl
    clear h
    rcases h' with h | h
    all_goals
      go_enter Tryz.func63, Tryz.ntmps63
      go_wp2_with fail
      refine (in_any s _ hs0 hs1).mono ?_
      rintro e w1 ⟨v, rfl, hown, hb⟩
      have HST := Lib.hid hown; clear hown
      have HBL := Lib.hid hb; clear hb
      go_wp2_with (go_at_call 73; refine (sum_any _ (truths s 31) _ HB.out (Reads.of_owns HST.out)).mono ?_; rintro e w' ⟨rfl, rfl⟩)
      go_ret
      exact ⟨ret_int HS.out, HBL.out⟩

theorem all_range_succ (f : Nat → Bool) (k : Nat) : (List.range (k + 1)).all f = ((List.range k).all f && f k) := by
  rw [List.range_succ, List.all_append]; simp

theorem first_mid (n : Int) (h0 : 0 < n) (h1 : n ≤ 31) : wrap64 (wrap64 (2 ^ n.toNat) - 1) = firstZ n := by
  have e : ((2 : Int) ^ n.toNat) = ((2 ^ n.toNat : Nat) : Int) := by simp
  have hp : (2 : Nat) ^ n.toNat ≤ 2 ^ 31 := Nat.pow_le_pow_right (by omega) (by omega)
  have hq : 1 ≤ (2 : Nat) ^ n.toNat := Nat.one_le_two_pow
  have hc : clamp n = n.toNat := by unfold clamp; omega
  unfold firstZ
  rw [e, hc]
  generalize (2 : Nat) ^ n.toNat = m at *
  rw [IntWalk.wrap64_in (m : Int) ⟨by omega, by omega⟩, IntWalk.wrap64_in _ ⟨by omega, by omega⟩]
  omega

set_option maxHeartbeats 400000 in
theorem first_any (n : Int) (w : World) :
    Calls Tryz.prog 104 #[.int .i64 n] w fun e w' => e = .returned (.int .i64 (firstZ n)) ∧ w = w' := by
  rcases (show n ≤ 0 ∨ (0 < n ∧ n ≤ 31) ∨ 31 < n by omega) with h | ⟨h, h'⟩ | h
  · have H : Hid (firstZ n = 0) := by unfold Hid firstZ; rw [show clamp n = 0 by unfold clamp; omega]; rfl
    go_enter Tryz.func104, Tryz.ntmps104
    go_wp2
    go_ret
    exact ⟨ret_int (by rw [H.out]), rfl⟩
  · have H := Lib.hid (first_mid n h h')
    go_enter Tryz.func104, Tryz.ntmps104
    go_wp2
    go_ret
    exact ⟨ret_int H.out, rfl⟩
  · have H : Hid (firstZ n = 2147483647) := by unfold Hid firstZ; rw [show clamp n = 31 by unfold clamp; omega]; rfl
    go_enter Tryz.func104, Tryz.ntmps104
    go_wp2
    go_ret
    exact ⟨ret_int (by rw [H.out]), rfl⟩

end Go.Proofs.YtadjnfpomjopkaaGreat

namespace Go.Proofs.YtadjnfpomjopkaaGreat
open Go.RowKit

/-- how a model lies -/
structure MdR (w : World) (m0 m1 m2 m3 m4 m5 m6 m7 m8 m9 : Value) (M : Mdl) : Prop where
  attrs : RowE strE 1 w m0 M.attrs
  inits : RowE intE 1 w m1 M.inits
  users : RowE strE 1 w m2 M.users
  roles : RowE roleE 2 w m3 M.roles
  stages : RowE stageE 2 w m4 M.stages
  events : RowE eventE 5 w m5 M.events
  guards : RowE guardE 3 w m6 M.guards
  miles : RowE mileE 5 w m7 M.miles
  sods : RowE sodE 2 w m8 M.sods
  order : RowE sentryE 2 w m9 M.order
theorem MdR.below {w w' : World} {m0 m1 m2 m3 m4 m5 m6 m7 m8 m9 : Value} {M : Mdl} (h : MdR w m0 m1 m2 m3 m4 m5 m6 m7 m8 m9 M) (hb : Below w.heap.size w w') : MdR w' m0 m1 m2 m3 m4 m5 m6 m7 m8 m9 M :=
  ⟨h.attrs.below strE_keep hb, h.inits.below intE_keep hb, h.users.below strE_keep hb, h.roles.below roleE_keep hb, h.stages.below stageE_keep hb, h.events.below eventE_keep hb, h.guards.below guardE_keep hb, h.miles.below mileE_keep hb, h.sods.below sodE_keep hb, h.order.below sentryE_keep hb⟩
theorem MdR.of_model {w : World} {M : Mdl} {cs : List Value} (h : modelE w M cs) : ∃ m0 m1 m2 m3 m4 m5 m6 m7 m8 m9, cs = [m0, m1, m2, m3, m4, m5, m6, m7, m8, m9] ∧ MdR w m0 m1 m2 m3 m4 m5 m6 m7 m8 m9 M := by
  obtain ⟨m0, m1, m2, m3, m4, m5, m6, m7, m8, m9, hc, h0, h1, h2, h3, h4, h5, h6, h7, h8, h9⟩ := h
  exact ⟨m0, m1, m2, m3, m4, m5, m6, m7, m8, m9, hc, ⟨h0, h1, h2, h3, h4, h5, h6, h7, h8, h9⟩⟩
end Go.Proofs.YtadjnfpomjopkaaGreat

namespace Go.Proofs.YtadjnfpomjopkaaGreat
open Go.RowKit

theorem RowE.getE {α : Type} {E : ElE α} {k : Nat} {w : World} {v : Value} {T : List α} (_h : RowE E k w v T) {i : Nat} (hi : i < T.length) : ∃ a, T[i]? = some a := ⟨_, List.getElem?_eq_getElem hi⟩
theorem ltI {k n : Nat} (h : k < n) : (k : Int) < (n : Int) := by omega
theorem nltI {k n : Nat} (h : ¬ k < n) : ¬ (k : Int) < (n : Int) := by omega

theorem roleRow {w : World} {v : Value} {T : List (ByteArray × Int)} (h : RowE roleE 2 w v T) {i : Nat} {x : (ByteArray × Int)} (hi : T[i]? = some x) :
    ∃ b off cap, v = .slice (some ⟨b, off, none⟩) T.length cap ∧ b < w.heap.size ∧ w.cell? ⟨b, off + i * 2, none⟩ = some (.string x.1) ∧ w.cell? ⟨b, off + i * 2 + 1, none⟩ = some (.int .i64 x.2) := by
  obtain ⟨b, off, cap, cs, hv, hb, _, he, hc⟩ := h.at hi
  unfold roleE at he
  subst he
  exact ⟨b, off, cap, hv, hb, hc 0 _ rfl, hc 1 _ rfl⟩

theorem stageRow {w : World} {v : Value} {T : List (ByteArray × Int)} (h : RowE stageE 2 w v T) {i : Nat} {x : (ByteArray × Int)} (hi : T[i]? = some x) :
    ∃ b off cap, v = .slice (some ⟨b, off, none⟩) T.length cap ∧ b < w.heap.size ∧ w.cell? ⟨b, off + i * 2, none⟩ = some (.string x.1) ∧ w.cell? ⟨b, off + i * 2 + 1, none⟩ = some (.int .i64 x.2) := by
  obtain ⟨b, off, cap, cs, hv, hb, _, he, hc⟩ := h.at hi
  unfold stageE at he
  subst he
  exact ⟨b, off, cap, hv, hb, hc 0 _ rfl, hc 1 _ rfl⟩

theorem sodRow {w : World} {v : Value} {T : List (Int × Int)} (h : RowE sodE 2 w v T) {i : Nat} {x : (Int × Int)} (hi : T[i]? = some x) :
    ∃ b off cap, v = .slice (some ⟨b, off, none⟩) T.length cap ∧ b < w.heap.size ∧ w.cell? ⟨b, off + i * 2, none⟩ = some (.int .i64 x.1) ∧ w.cell? ⟨b, off + i * 2 + 1, none⟩ = some (.int .i64 x.2) := by
  obtain ⟨b, off, cap, cs, hv, hb, _, he, hc⟩ := h.at hi
  unfold sodE at he
  subst he
  exact ⟨b, off, cap, hv, hb, hc 0 _ rfl, hc 1 _ rfl⟩

theorem sentRow {w : World} {v : Value} {T : List (Bool × Int)} (h : RowE sentryE 2 w v T) {i : Nat} {x : (Bool × Int)} (hi : T[i]? = some x) :
    ∃ b off cap, v = .slice (some ⟨b, off, none⟩) T.length cap ∧ b < w.heap.size ∧ w.cell? ⟨b, off + i * 2, none⟩ = some (.bool x.1) ∧ w.cell? ⟨b, off + i * 2 + 1, none⟩ = some (.int .i64 x.2) := by
  obtain ⟨b, off, cap, cs, hv, hb, _, he, hc⟩ := h.at hi
  unfold sentryE at he
  subst he
  exact ⟨b, off, cap, hv, hb, hc 0 _ rfl, hc 1 _ rfl⟩

theorem eventRow {w : World} {v : Value} {T : List Ev} (h : RowE eventE 5 w v T) {i : Nat} {x : Ev} (hi : T[i]? = some x) :
    ∃ b off cap ai ki, v = .slice (some ⟨b, off, none⟩) T.length cap ∧ b < w.heap.size ∧ RowE intE 1 w (.slice ai x.sets.length ki) x.sets ∧ w.cell? ⟨b, off + i * 5, none⟩ = some (.string x.name) ∧ w.cell? ⟨b, off + i * 5 + 1, none⟩ = some (.int .i64 x.role) ∧ w.cell? ⟨b, off + i * 5 + 2, none⟩ = some (.int .i64 x.stage) ∧ w.cell? ⟨b, off + i * 5 + 3, none⟩ = some (.slice ai x.sets.length ki) ∧ w.cell? ⟨b, off + i * 5 + 4, none⟩ = some (.int .i64 x.times) := by
  obtain ⟨b, off, cap, cs, hv, hb, _, he, hc⟩ := h.at hi
  obtain ⟨u, he, hr⟩ := he
  obtain ⟨ai, ki, hu⟩ := hr.len
  subst hu
  subst he
  exact ⟨b, off, cap, ai, ki, hv, hb, hr, hc 0 _ rfl, hc 1 _ rfl, hc 2 _ rfl, hc 3 _ rfl, hc 4 _ rfl⟩

theorem guardRow {w : World} {v : Value} {T : List Gd} (h : RowE guardE 3 w v T) {i : Nat} {x : Gd} (hi : T[i]? = some x) :
    ∃ b off cap ai ki, v = .slice (some ⟨b, off, none⟩) T.length cap ∧ b < w.heap.size ∧ RowE instE 7 w (.slice ai x.ifs.length ki) x.ifs ∧ w.cell? ⟨b, off + i * 3, none⟩ = some (.int .i64 x.stage) ∧ w.cell? ⟨b, off + i * 3 + 1, none⟩ = some (.int .i64 x.event) ∧ w.cell? ⟨b, off + i * 3 + 2, none⟩ = some (.slice ai x.ifs.length ki) := by
  obtain ⟨b, off, cap, cs, hv, hb, _, he, hc⟩ := h.at hi
  obtain ⟨u, he, hr⟩ := he
  obtain ⟨ai, ki, hu⟩ := hr.len
  subst hu
  subst he
  exact ⟨b, off, cap, ai, ki, hv, hb, hr, hc 0 _ rfl, hc 1 _ rfl, hc 2 _ rfl⟩

theorem mileRow {w : World} {v : Value} {T : List Ml} (h : RowE mileE 5 w v T) {i : Nat} {x : Ml} (hi : T[i]? = some x) :
    ∃ b off cap ai ki, v = .slice (some ⟨b, off, none⟩) T.length cap ∧ b < w.heap.size ∧ RowE instE 7 w (.slice ai x.ifs.length ki) x.ifs ∧ w.cell? ⟨b, off + i * 5, none⟩ = some (.string x.name) ∧ w.cell? ⟨b, off + i * 5 + 1, none⟩ = some (.int .i64 x.stage) ∧ w.cell? ⟨b, off + i * 5 + 2, none⟩ = some (.int .i64 x.event) ∧ w.cell? ⟨b, off + i * 5 + 3, none⟩ = some (.slice ai x.ifs.length ki) ∧ w.cell? ⟨b, off + i * 5 + 4, none⟩ = some (.bool x.final) := by
  obtain ⟨b, off, cap, cs, hv, hb, _, he, hc⟩ := h.at hi
  obtain ⟨u, he, hr⟩ := he
  obtain ⟨ai, ki, hu⟩ := hr.len
  subst hu
  subst he
  exact ⟨b, off, cap, ai, ki, hv, hb, hr, hc 0 _ rfl, hc 1 _ rfl, hc 2 _ rfl, hc 3 _ rfl, hc 4 _ rfl⟩

theorem moveRow {w : World} {v : Value} {T : List Mv} (h : RowE moveE 3 w v T) {i : Nat} {x : Mv} (hi : T[i]? = some x) :
    ∃ b off cap ai ki, v = .slice (some ⟨b, off, none⟩) T.length cap ∧ b < w.heap.size ∧ RowE intE 1 w (.slice ai x.vals.length ki) x.vals ∧ w.cell? ⟨b, off + i * 3, none⟩ = some (.int .i64 x.event) ∧ w.cell? ⟨b, off + i * 3 + 1, none⟩ = some (.int .i64 x.user) ∧ w.cell? ⟨b, off + i * 3 + 2, none⟩ = some (.slice ai x.vals.length ki) := by
  obtain ⟨b, off, cap, cs, hv, hb, _, he, hc⟩ := h.at hi
  obtain ⟨u, he, hr⟩ := he
  obtain ⟨ai, ki, hu⟩ := hr.len
  subst hu
  subst he
  exact ⟨b, off, cap, ai, ki, hv, hb, hr, hc 0 _ rfl, hc 1 _ rfl, hc 2 _ rfl⟩

end Go.Proofs.YtadjnfpomjopkaaGreat
