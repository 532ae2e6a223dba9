/- Contract of warderlaw06's clean. The laws ShowBack and ShowOnce. 'warder/warderlaw06.ShowOnce' returns true for every input and leaves its arguments as they were; no condition. The row lists package-level variables of Go's library with what they hold at the start; the card ties them to the program's text. -/
import Derived.Test.YthhjepgcbfmfeaaGreatDoorSb32
import Derived.Test.YthhjepgcbfmfeaaGreatDoorSb22
import Derived.Test.YthhjepgcbfmfeaaGreatDoorCards
import Derived.Test.YthhjepgcbfmfeaaGreatDoorTie
import Derived.Test.YthhjepgcbfmfeaaGreatDoorShelf
import Derived.WalkKit
import Derived.ProofKit
import Derived.OpenShut
import Derived.ChangeOld
import Derived.Below
import Derived.ShutString
import Derived.Deep.DeepHandedRow
import Derived.Lay
import Derived.Stop.Joined
import Derived.Stop.LaidErr
import Derived.MakeChecks
import Derived.SizedLaws

namespace Go.Proofs.YthhjepgcbfmfeaaGreatDoor
open Go.RowKit

theorem two_blk (W : World) (X Y : Array Value) (t : TypeId) : Blk ((W.alloc (.cells X t)).alloc (.cells Y t)).drew W.heap.size X t ∧ Blk ((W.alloc (.cells X t)).alloc (.cells Y t)).drew (W.heap.size + 1) Y t := by
  refine ⟨((Blk.new W X t).alloc _).drew, ?_⟩
  have := (Blk.new (W.alloc (.cells X t)) Y t).drew
  simpa using this

set_option maxRecDepth 100000 in
set_option maxHeartbeats 4000000 in
theorem clean_any {w : World} {u v : Value} {O o : List It} (hu : ItIn w u O) (hv : ItIn w v o) (h : barL o = O.map canI) (hO : O.length ≤ 5000) :
    Calls Tryz.prog 9 #[u, v] w fun e w' => e = .returned (.bool true) ∧ Below w.heap.size w w' := by
  obtain ⟨hl, hc⟩ := cln_at h
  obtain ⟨ad, cap, eu⟩ := hu.len
  obtain ⟨ad2, cap2, ev⟩ := hv.len
  rw [hl] at ev
  subst eu
  subst ev
  have HU := Lib.hid hu
  have HV := Lib.hid hv
  have HC := Lib.hid hc
  have HL := Lib.hid hl
  have hne : ((O.length : Int) != (O.length : Int)) = false := by simp
  clear hu hv hc hl h
  go_enter Tryz.func9, Tryz.ntmps9
  go_wp2
  go_loopw [5] (fun i wr => ∃ k : Nat, i = .int .i64 k ∧ k ≤ O.length ∧ Hid (Below w.heap.size w wr)) (fun i _ => O.length - (intOf i).toNat)
  case atStart => exact ⟨0, by go_num, by omega, Below.refl _ _⟩
  case round =>
    obtain ⟨k, rfl, hk, HBR⟩ := hrel
    by_cases hlt : k < O.length
    · obtain ⟨x, hx⟩ : ∃ x, O[k]? = some x := ⟨_, List.getElem?_eq_getElem hlt⟩
      obtain ⟨y, hy, hxy⟩ := HC.out k x hx
      obtain ⟨g, off, c1, hg, hgl, a0, a1, a2, a3, a4, a5, a6, a7, a8⟩ := (HU.out.keep HBR.out).at hx
      obtain ⟨g2, off2, c2, hg2, hgl2, b0, b1, b2, b3, b4, b5, b6, b7, b8⟩ := (HV.out.keep HBR.out).at hy
      rw [HL.out] at hg2
      simp only [Value.slice.injEq, true_and] at hg hg2
      obtain ⟨rfl, rfl⟩ := hg
      obtain ⟨rfl, rfl⟩ := hg2
      have hkz : (k : Int) < (O.length : Int) := by omega
      have HXY := Lib.hid hxy
      clear hx hy hxy
      have HFA := Lib.hid (And.intro (two_blk wr #[.int .i64 x.op, .string x.ln, .int .i64 x.lnum, .string x.rn, .int .i64 x.rnum, .string x.name, .string x.user, .int .i64 x.line, .int .i64 x.col] #[.int .i64 y.op, .string y.ln, .int .i64 y.lnum, .string y.rn, .int .i64 y.rnum, .string y.name, .string y.user, .int .i64 y.line, .int .i64 y.col] 39).1 (And.intro (two_blk wr #[.int .i64 x.op, .string x.ln, .int .i64 x.lnum, .string x.rn, .int .i64 x.rnum, .string x.name, .string x.user, .int .i64 x.line, .int .i64 x.col] #[.int .i64 y.op, .string y.ln, .int .i64 y.lnum, .string y.rn, .int .i64 y.rnum, .string y.name, .string y.user, .int .i64 y.line, .int .i64 y.col] 39).2 (show Below w.heap.size w (((wr.alloc (.cells #[.int .i64 x.op, .string x.ln, .int .i64 x.lnum, .string x.rn, .int .i64 x.rnum, .string x.name, .string x.user, .int .i64 x.line, .int .i64 x.col] 39)).alloc (.cells #[.int .i64 y.op, .string y.ln, .int .i64 y.lnum, .string y.rn, .int .i64 y.rnum, .string y.name, .string y.user, .int .i64 y.line, .int .i64 y.col] 39)).drew) from ((HBR.out.alloc HBR.out.size _).alloc (by have := HBR.out.size; simp; omega) _).drew)))
      have HFB := Lib.hid (And.intro (two_blk wr #[.int .i64 y.op, .string y.ln, .int .i64 y.lnum, .string y.rn, .int .i64 y.rnum, .string y.name, .string y.user, .int .i64 y.line, .int .i64 y.col] #[.int .i64 x.op, .string x.ln, .int .i64 x.lnum, .string x.rn, .int .i64 x.rnum, .string x.name, .string x.user, .int .i64 x.line, .int .i64 x.col] 39).2 (And.intro (two_blk wr #[.int .i64 y.op, .string y.ln, .int .i64 y.lnum, .string y.rn, .int .i64 y.rnum, .string y.name, .string y.user, .int .i64 y.line, .int .i64 y.col] #[.int .i64 x.op, .string x.ln, .int .i64 x.lnum, .string x.rn, .int .i64 x.rnum, .string x.name, .string x.user, .int .i64 x.line, .int .i64 x.col] 39).1 (show Below w.heap.size w (((wr.alloc (.cells #[.int .i64 y.op, .string y.ln, .int .i64 y.lnum, .string y.rn, .int .i64 y.rnum, .string y.name, .string y.user, .int .i64 y.line, .int .i64 y.col] 39)).alloc (.cells #[.int .i64 x.op, .string x.ln, .int .i64 x.lnum, .string x.rn, .int .i64 x.rnum, .string x.name, .string x.user, .int .i64 x.line, .int .i64 x.col] 39)).drew) from ((HBR.out.alloc HBR.out.size _).alloc (by have := HBR.out.size; simp; omega) _).drew)))
      go_upto_region 6 with fail
      go_cut [6, 7] (fun v6 v7 wx => ∃ b6 b7 : Nat, v6 = .pointer (some ⟨b6, 0, none⟩) ∧ v7 = .pointer (some ⟨b7, 0, none⟩) ∧ Hid (Blk wx b6 #[.int .i64 x.op, .string x.ln, .int .i64 x.lnum, .string x.rn, .int .i64 x.rnum, .string x.name, .string x.user, .int .i64 x.line, .int .i64 x.col] 39 ∧ Blk wx b7 #[.int .i64 y.op, .string y.ln, .int .i64 y.lnum, .string y.rn, .int .i64 y.rnum, .string y.name, .string y.user, .int .i64 y.line, .int .i64 y.col] 39 ∧ Below w.heap.size w wx))
      case first =>
        go_region
        all_goals
          go_wp2_with fail
          go_meet
          first
          | exact ⟨_, _, rfl, rfl, HFA.out⟩
          | exact ⟨_, _, rfl, rfl, HFB.out⟩
      case rest =>
        obtain ⟨b6, b7, rfl, rfl, hcut⟩ := hcut
        obtain ⟨hp, hq, hB⟩ := hcut.out
        obtain ⟨p0, p1, p2, p3, p4, p5, p6, p7, p8⟩ := hp.nine
        obtain ⟨q0, q1, q2, q3, q4, q5, q6, q7, q8⟩ := hq.nine
        have HB := Lib.hid hB
        have hoo : (x.op != x.op) = false := by simp
        rw [HXY.out.op] at q0
        clear hp hq hB hcut a0 a1 a2 a3 a4 a5 a6 a7 a8 b0 b1 b2 b3 b4 b5 b8
        rcases (show x.op < 3 ∨ (3 ≤ x.op ∧ x.op ≤ 8) ∨ (9 ≤ x.op ∧ x.op ≤ 11) ∨ x.op = 12 ∨ 12 < x.op by omega) with hop | hop | hop | hop | hop
        · have d9 : decide ((9 : Int) ≤ x.op) = false := decide_eq_false (by omega)
          have e12 : (x.op == 12) = false := beq_eq_false_iff_ne.2 (by omega)
          have d3 : decide ((3 : Int) ≤ x.op) = false := decide_eq_false (by omega)
          clear hop
          go_wp2
          go_roundw
          case rel => exact ⟨k + 1, by go_num, by omega, HB.out⟩
          case measure => simp [intOf]; omega
        · have W1 := (HXY.out.words (by omega) (by omega)).1
          have W2 := (HXY.out.words (by omega) (by omega)).2.1
          have W3 := (HXY.out.words (by omega) (by omega)).2.2.1
          have W4 := (HXY.out.words (by omega) (by omega)).2.2.2
          rw [W1] at q1
          rw [W2] at q3
          have d9 : decide ((9 : Int) ≤ x.op) = false := decide_eq_false (by omega)
          have e12 : (x.op == 12) = false := beq_eq_false_iff_ne.2 (by omega)
          have d3 : decide ((3 : Int) ≤ x.op) = true := decide_eq_true (by omega)
          have d8 : decide (x.op ≤ (8 : Int)) = true := decide_eq_true (by omega)
          have t1 : (x.ln.toList != x.ln.toList) = false := by simp
          have t2 : (x.rn.toList != x.rn.toList) = false := by simp
          have z1 := empty_list x.ln
          have z2 := empty_list x.rn
          have n1 : (x.lnum != x.lnum) = false := by simp
          have n2 : (x.rnum != x.rnum) = false := by simp
          clear hop W1 W2
          by_cases s1 : x.ln.size = 0 <;> by_cases s2 : x.rn.size = 0
          · skip
            rw [decide_eq_true s1] at z1
            rw [decide_eq_true s2] at z2
            rw [W3 s1] at q2
            rw [W4 s2] at q4
            clear s1 s2 W3 W4
            go_wp2
            go_roundw
            case rel => exact ⟨k + 1, by go_num, by omega, HB.out⟩
            case measure => simp [intOf]; omega
          · skip
            rw [decide_eq_true s1] at z1
            rw [decide_eq_false s2] at z2
            rw [W3 s1] at q2
            clear s1 s2 W3 W4
            go_wp2
            go_roundw
            case rel => exact ⟨k + 1, by go_num, by omega, HB.out⟩
            case measure => simp [intOf]; omega
          · skip
            rw [decide_eq_false s1] at z1
            rw [decide_eq_true s2] at z2
            rw [W4 s2] at q4
            clear s1 s2 W3 W4
            go_wp2
            go_roundw
            case rel => exact ⟨k + 1, by go_num, by omega, HB.out⟩
            case measure => simp [intOf]; omega
          · skip
            rw [decide_eq_false s1] at z1
            rw [decide_eq_false s2] at z2
            clear s1 s2 W3 W4
            go_wp2
            go_roundw
            case rel => exact ⟨k + 1, by go_num, by omega, HB.out⟩
            case measure => simp [intOf]; omega
        · have W1 := HXY.out.name (by omega) (by omega)
          rw [W1] at q5
          have t1 : (x.name.toList != x.name.toList) = false := by simp
          have d9 : decide ((9 : Int) ≤ x.op) = true := decide_eq_true (by omega)
          have d12 : decide (x.op ≤ (12 : Int)) = true := decide_eq_true (by omega)
          have e12 : (x.op == 12) = false := beq_eq_false_iff_ne.2 (by omega)
          have d3 : decide ((3 : Int) ≤ x.op) = true := decide_eq_true (by omega)
          have d8 : decide (x.op ≤ (8 : Int)) = false := decide_eq_false (by omega)
          clear W1
          clear hop
          go_wp2
          go_roundw
          case rel => exact ⟨k + 1, by go_num, by omega, HB.out⟩
          case measure => simp [intOf]; omega
        · have W1 := HXY.out.name (by omega) (by omega)
          have W2 := HXY.out.user hop
          rw [W1] at q5
          rw [W2] at q6
          have t1 : (x.name.toList != x.name.toList) = false := by simp
          have t2 : (x.user.toList != x.user.toList) = false := by simp
          have d9 : decide ((9 : Int) ≤ x.op) = true := decide_eq_true (by omega)
          have d12 : decide (x.op ≤ (12 : Int)) = true := decide_eq_true (by omega)
          have e12 : (x.op == 12) = true := beq_iff_eq.2 (by omega)
          have d3 : decide ((3 : Int) ≤ x.op) = true := decide_eq_true (by omega)
          have d8 : decide (x.op ≤ (8 : Int)) = false := decide_eq_false (by omega)
          clear W1 W2
          clear hop
          go_wp2
          go_roundw
          case rel => exact ⟨k + 1, by go_num, by omega, HB.out⟩
          case measure => simp [intOf]; omega
        · have d9 : decide ((9 : Int) ≤ x.op) = true := decide_eq_true (by omega)
          have d12 : decide (x.op ≤ (12 : Int)) = false := decide_eq_false (by omega)
          have e12 : (x.op == 12) = false := beq_eq_false_iff_ne.2 (by omega)
          have d3 : decide ((3 : Int) ≤ x.op) = true := decide_eq_true (by omega)
          have d8 : decide (x.op ≤ (8 : Int)) = false := decide_eq_false (by omega)
          clear hop
          go_wp2
          go_roundw
          case rel => exact ⟨k + 1, by go_num, by omega, HB.out⟩
          case measure => simp [intOf]; omega
    · have hkz : ¬ (k : Int) < (O.length : Int) := by omega
      go_wp2
      go_ret
      exact ⟨rfl, HBR.out⟩

end Go.Proofs.YthhjepgcbfmfeaaGreatDoor

namespace Go.Proofs.YthhjepgcbfmfeaaGreatDoor
open Go.RowKit

theorem formR_err {O : List It} (h : (formR O).2 ≠ 0) : (formR O).1 = nil8 := by
  unfold formR at h ⊢
  split
  · rfl
  · rename_i h1
    rw [if_neg h1] at h
    split
    · rfl
    · rename_i h2
      rw [if_neg h2] at h
      cases hf : treeF O with
      | none => rfl
      | some f => rw [hf] at h; exact absurd rfl h
theorem formR_good {O : List It} (h : (formR O).2 = 0) : ∃ f : Fm, f.flat = O ∧ (formR O).1 = textF f ∧ O.length ≤ 64 ∧ ∀ x ∈ O, namedB x = true := by
  unfold formR at h ⊢
  split at h
  · rename_i h1; exact absurd h h1
  rename_i h1
  rw [if_neg h1]
  split at h
  · cases h
  rename_i h2
  rw [if_neg h2]
  have h3 : O.all namedB = true := by simpa using h2
  cases hf : treeF O with
  | none => rw [hf] at h; cases h
  | some f =>
    obtain ⟨_, hl, _⟩ := chk_ok (Classical.not_not.1 h1)
    exact ⟨f, treeF_flat hf, rfl, hl, List.all_eq_true.1 h3⟩
theorem whole_no {s : ByteArray} {prop : Bool} {e l c : Int} (h : wholeP s prop = .bad e l c) : e ≠ 0 := by
  unfold wholeP at h
  split at h
  · rename_i q; cases h; exact q
  · cases hp : readP (tokRes s).T prop 0 with
    | bad e1 l1 c1 => rw [hp] at h; cases h; exact readP_no hp
    | ok o1 a1 =>
      rw [hp] at h
      dsimp only at h
      split at h
      · cases h
      · cases h; decide

/-- what comes of a text, as a formula -/
theorem whole_ok {s : ByteArray} {w : World} (ht : Tabs w) (hs : s.size ≤ 4294967200) {o : List It} {a : Int} (h : wholeP s true = .ok o a) :
    Calls Tryz.prog 8 #[.string s, .bool true] w fun e w' => ∃ v, e = .returned (.tuple #[v, .agg #[.int .i64 0, .int .i64 0, .int .i64 0]]) ∧ ItRow w' v o ∧ Below w.heap.size w w' := by
  refine (whole_any s true w ht.mx hs).mono fun e w' hp => ?_
  rw [h] at hp
  obtain ⟨v, e1, e2, e3⟩ := hp
  exact ⟨v, e1, ⟨_, e2⟩, e3⟩
theorem whole_bad {s : ByteArray} {w : World} (ht : Tabs w) (hs : s.size ≤ 4294967200) {er l c : Int} (h : wholeP s true = .bad er l c) :
    Calls Tryz.prog 8 #[.string s, .bool true] w fun e w' => e = .returned (.tuple #[.slice none 0 0, .agg #[.int .i64 er, .int .i64 l, .int .i64 c]]) ∧ Below w.heap.size w w' := by
  refine (whole_any s true w ht.mx hs).mono fun e w' hp => ?_
  rw [h] at hp
  exact hp
theorem flt_new (w : World) (e l c : Int) : (w.alloc (.cells #[.int .i64 e, .int .i64 l, .int .i64 c] 31)).cell? ⟨w.heap.size, 0, none⟩ = some (.int .i64 e) := (Blk.new w _ _).cell rfl
theorem flt_below (w : World) (o : Obj) : Below w.heap.size w (w.alloc o) := (Below.refl _ w).alloc (Nat.le_refl _) _

set_option maxRecDepth 100000 in
set_option maxHeartbeats 4000000 in
theorem lawBack_any {w : World} (ht : Tabs w) {v : Value} {O : List It} (h : ItIn w v O) (hn : ∀ y ∈ O, ItNum y) :
    Calls Tryz.prog 3 #[v] w fun e w' => e = .returned (.bool true) ∧ Below w.heap.size w w' := by
  obtain ⟨ad, cap, hv⟩ := h.len
  subst hv
  have HG := Lib.hid (great_any h)
  have HAW := Lib.hid (fun (W : World) (hW : Tabs W) => awake06 hW)
  have HT := Lib.hid ht
  have HI := Lib.hid h
  have HN := Lib.hid hn
  clear ht h hn
  go_enter Tryz.func3, Tryz.ntmps3
  go_wp2_with fail
  refine HG.out.mono ?_
  rintro e w1 ⟨b, rfl, hw, hsm⟩
  rw [hw]; clear hw
  cases b
  · obtain ⟨_, hlow⟩ := hsm rfl
    have hs : ∀ x ∈ O, Short x := fun x hx => by
      obtain ⟨l1, l2, l3, l4⟩ := hlow x hx
      obtain ⟨_, n2, n3⟩ := HN.out x hx
      exact ⟨l3, l4, l1, l2, n2, n3⟩
    have HF := Lib.hid (formula_any HT.out HI.out hs)
    by_cases he : (formR O).2 = 0
    · obtain ⟨f, hfO, hft, hl64, hnm⟩ := formR_good he
      rw [he, hft] at HF
      have hsf : ∀ x ∈ f.flat, Short x := by rw [hfO]; exact hs
      have hsz := textF_size f hsf
      have hbk := back_law (f := f) (by rw [hfO]; exact hnm) hsf (by rw [hfO]; exact hl64)
      obtain ⟨tx, htx⟩ : ∃ t, textF f = t := ⟨_, rfl⟩
      rw [htx] at HF hbk hsz
      rw [hfO] at hbk hsz
      have hts : tx.size ≤ 4294967200 := by omega
      clear hsm hlow hs he hft hnm htx hsf hsz hfO
      by_cases hd : needF f ≤ 25
      · obtain ⟨o, a, hw, hb⟩ := hbk.1 hd
        have HW := Lib.hid (fun (W : World) (hW : Tabs W) => whole_ok hW hts hw)
        have HCL := Lib.hid (fun (W : World) (u : Value) (h1 : ItIn W (.slice ad O.length cap) O) (h2 : ItIn W u o) => clean_any h1 h2 hb (by omega))
        clear hbk hd hw hb hts hl64
        go_wp2_with fail
        refine HF.out.mono ?_
        rintro e w2 ⟨rfl, hb2⟩
        have HB2 := Lib.hid hb2
        have HT2 := Lib.hid (HT.out.keep hb2)
        have HI2 := Lib.hid (HI.out.keep hb2)
        clear hb2
        go_wp2_with fail
        refine (HW.out _ HT2.out).mono ?_
        rintro e w3 ⟨vm, rfl, hrow, hb3⟩
        have HB3 := Lib.hid ((HB2.out.trans (hb3.mono HB2.out.size)).trans ((flt_below w3 (.cells #[.int .i64 0, .int .i64 0, .int .i64 0] 31)).mono (HB2.out.trans (hb3.mono HB2.out.size)).size))
        have HT3 := Lib.hid ((HT2.out.keep hb3).keep (flt_below w3 (.cells #[.int .i64 0, .int .i64 0, .int .i64 0] 31)))
        have HI3 := Lib.hid ((HI2.out.keep hb3).keep (flt_below w3 (.cells #[.int .i64 0, .int .i64 0, .int .i64 0] 31)))
        have HM3 := Lib.hid ((ItIn.of_row hrow).keep (flt_below w3 (.cells #[.int .i64 0, .int .i64 0, .int .i64 0] 31)))
        have hc0 := flt_new w3 0 0 0
        clear hrow hb3
        go_wp2_with fail
        refine (HCL.out _ _ HI3.out HM3.out).mono ?_
        rintro e w4 ⟨rfl, hb4⟩
        have HB4 := Lib.hid (HB3.out.trans (hb4.mono HB3.out.size))
        have HT4 := Lib.hid (HT3.out.keep hb4)
        clear hb4
        go_wp2_with fail
        refine (HAW.out _ HT4.out).mono ?_
        rintro e w5 ⟨rfl, hb5⟩
        have HB5 := Lib.hid (HB4.out.trans (hb5.mono HB4.out.size))
        clear hb5
        go_wp2
        go_ret
        exact ⟨rfl, HB5.out⟩
      · obtain ⟨l, c, hw⟩ := hbk.2 (by omega)
        have HW := Lib.hid (fun (W : World) (hW : Tabs W) => whole_bad hW hts hw)
        clear hbk hd hw hts hl64
        go_wp2_with fail
        refine HF.out.mono ?_
        rintro e w2 ⟨rfl, hb2⟩
        have HB2 := Lib.hid hb2
        have HT2 := Lib.hid (HT.out.keep hb2)
        clear hb2
        go_wp2_with fail
        refine (HW.out _ HT2.out).mono ?_
        rintro e w3 ⟨rfl, hb3⟩
        have HB3 := Lib.hid ((HB2.out.trans (hb3.mono HB2.out.size)).trans ((flt_below w3 (.cells #[.int .i64 5, .int .i64 l, .int .i64 c] 31)).mono (HB2.out.trans (hb3.mono HB2.out.size)).size))
        have HT3 := Lib.hid ((HT2.out.keep hb3).keep (flt_below w3 (.cells #[.int .i64 5, .int .i64 l, .int .i64 c] 31)))
        have hc0 := flt_new w3 5 l c
        clear hb3
        go_wp2_with fail
        refine (HAW.out _ HT3.out).mono ?_
        rintro e w5 ⟨rfl, hb5⟩
        have HB5 := Lib.hid (HB3.out.trans (hb5.mono HB3.out.size))
        clear hb5
        go_wp2
        go_ret
        exact ⟨rfl, HB5.out⟩
    · have hz := formR_err he
      obtain ⟨er, her⟩ : ∃ t, (formR O).2 = t := ⟨_, rfl⟩
      rw [hz, her] at HF
      rw [her] at he
      have hez : (er != 0) = true := bne_iff_ne.2 he
      unfold nil8 at HF
      clear hsm hlow hs he her hz
      go_wp2_with fail
      refine HF.out.mono ?_
      rintro e w2 ⟨rfl, hb2⟩
      have HB2 := Lib.hid hb2
      have HT2 := Lib.hid (HT.out.keep hb2)
      clear hb2
      go_wp2_with fail
      refine (HAW.out _ HT2.out).mono ?_
      rintro e w3 ⟨rfl, hb3⟩
      have HB3 := Lib.hid (HB2.out.trans (hb3.mono HB2.out.size))
      clear hb3
      go_wp2
      go_ret
      exact ⟨rfl, HB3.out⟩
  · clear hsm
    go_wp2_with fail
    refine (HAW.out _ HT.out).mono ?_
    rintro e w2 ⟨rfl, hb2⟩
    have HB2 := Lib.hid hb2
    clear hb2
    go_wp2
    go_ret
    exact ⟨rfl, HB2.out⟩

set_option maxRecDepth 100000 in
set_option maxHeartbeats 4000000 in
theorem lawOnce_any {w : World} (ht : Tabs w) (s : ByteArray) :
    Calls Tryz.prog 4 #[.string s] w fun e w' => e = .returned (.bool true) ∧ Below w.heap.size w w' := by
  have HAW := Lib.hid (fun (W : World) (hW : Tabs W) => awake06 hW)
  have HT := Lib.hid ht
  clear ht
  by_cases hbig : (2000 : Int) < (s.size : Int)
  · go_enter Tryz.func4, Tryz.ntmps4
    go_wp2_with fail
    refine (HAW.out _ HT.out).mono ?_
    rintro e w2 ⟨rfl, hb2⟩
    have HB2 := Lib.hid hb2
    clear hb2
    go_wp2
    go_ret
    exact ⟨rfl, HB2.out⟩
  cases hp : wholeP s true with
  | bad er l c =>
    have he : er ≠ 0 := whole_no hp
    have hez : (er != 0) = true := bne_iff_ne.2 he
    have HW := Lib.hid (fun (W : World) (hW : Tabs W) => whole_bad hW (by omega) hp)
    clear hp he
    go_enter Tryz.func4, Tryz.ntmps4
    go_wp2_with fail
    refine (HW.out _ HT.out).mono ?_
    rintro e w3 ⟨rfl, hb3⟩
    have HB3 := Lib.hid (hb3.trans ((flt_below w3 (.cells #[.int .i64 er, .int .i64 l, .int .i64 c] 31)).mono hb3.size))
    have HT3 := Lib.hid ((HT.out.keep hb3).keep (flt_below w3 (.cells #[.int .i64 er, .int .i64 l, .int .i64 c] 31)))
    have hc0 := flt_new w3 er l c
    clear hb3
    go_wp2_with fail
    refine (HAW.out _ HT3.out).mono ?_
    rintro e w5 ⟨rfl, hb5⟩
    have HB5 := Lib.hid (HB3.out.trans (hb5.mono HB3.out.size))
    clear hb5
    go_wp2
    go_ret
    exact ⟨rfl, HB5.out⟩
  | ok o a =>
    obtain ⟨t, p, b, h1, h2, h3, h4, h5, h6, h7, h8⟩ := once_law hp
    have HW := Lib.hid (fun (W : World) (hW : Tabs W) => whole_ok hW (by omega) hp)
    have HF := Lib.hid (fun (W : World) (u : Value) (hW : Tabs W) (hu : ItIn W u o) => formula_any hW hu h2)
    rw [h1] at HF
    have HW2 := Lib.hid (fun (W : World) (hW : Tabs W) => whole_ok hW (by omega) h4)
    have HF2 := Lib.hid (fun (W : World) (u : Value) (hW : Tabs W) (hu : ItIn W u p) => formula_any hW hu h7)
    rw [h6] at HF2
    have HS := Lib.hid (fun (W : World) (u u2 : Value) (ha : ItRow W u o) (hb : ItRow W u2 p) => same_list ha hb (by omega) h5)
    have hbt : (t.toList == t.toList) = true := beq_self_eq_true _
    dsimp only at HF HF2
    clear hp h1 h2 h3 h4 h5 h6 h7 h8
    go_enter Tryz.func4, Tryz.ntmps4
    go_wp2_with fail
    refine (HW.out _ HT.out).mono ?_
    rintro e w3 ⟨u, rfl, hr3, hb3⟩
    have f3 := flt_below w3 (.cells #[.int .i64 0, .int .i64 0, .int .i64 0] 31)
    have HB3 := Lib.hid (hb3.trans (f3.mono hb3.size))
    have HT3 := Lib.hid ((HT.out.keep hb3).keep f3)
    have HR3 := Lib.hid (hr3.keep f3)
    have hc0 := flt_new w3 0 0 0
    clear hb3 hr3 f3
    go_wp2_with fail
    refine (HF.out _ _ HT3.out (ItIn.of_row HR3.out)).mono ?_
    rintro e w4 ⟨rfl, hb4⟩
    have HB4 := Lib.hid (HB3.out.trans (hb4.mono HB3.out.size))
    have HT4 := Lib.hid (HT3.out.keep hb4)
    have HR4 := Lib.hid (HR3.out.keep hb4)
    clear hb4 hc0
    go_wp2_with fail
    refine (HW2.out _ HT4.out).mono ?_
    rintro e w5 ⟨u2, rfl, hr5, hb5⟩
    have f5 := flt_below w5 (.cells #[.int .i64 0, .int .i64 0, .int .i64 0] 31)
    have HB5 := Lib.hid ((HB4.out.trans (hb5.mono HB4.out.size)).trans (f5.mono (HB4.out.trans (hb5.mono HB4.out.size)).size))
    have HT5 := Lib.hid ((HT4.out.keep hb5).keep f5)
    have HR5 := Lib.hid ((HR4.out.keep hb5).keep f5)
    have HQ5 := Lib.hid (hr5.keep f5)
    have hc5 := Blk.new w5 #[.int .i64 0, .int .i64 0, .int .i64 0] 31
    have HC5 := Lib.hid hc5
    clear hb5 hr5 f5 hc5
    go_wp2_with fail
    refine (HF2.out _ _ HT5.out (ItIn.of_row HQ5.out)).mono ?_
    rintro e w6 ⟨rfl, hb6⟩
    have HB6 := Lib.hid (HB5.out.trans (hb6.mono HB5.out.size))
    have HT6 := Lib.hid (HT5.out.keep hb6)
    have HR6 := Lib.hid (HR5.out.keep hb6)
    have HQ6 := Lib.hid (HQ5.out.keep hb6)
    have hc6 : w6.cell? ⟨w5.heap.size, 0, none⟩ = some (.int .i64 0) := (HC5.out.keep hb6).cell rfl
    clear hb6
    go_wp2_with fail
    refine (HS.out _ _ _ HR6.out HQ6.out).mono ?_
    rintro e w7 ⟨rfl, hb7⟩
    have HB7 := Lib.hid (HB6.out.trans (hb7.mono HB6.out.size))
    have HT7 := Lib.hid (HT6.out.keep hb7)
    clear hb7
    go_wp2_with fail
    refine (HAW.out _ HT7.out).mono ?_
    rintro e w8 ⟨rfl, hb8⟩
    have HB8 := Lib.hid (HB7.out.trans (hb8.mono HB7.out.size))
    clear hb8
    go_wp2
    go_ret
    exact ⟨rfl, HB8.out⟩

end Go.Proofs.YthhjepgcbfmfeaaGreatDoor

namespace Go.Proofs.YthhjepgcbfmfeaaGreatDoor.showOnce
open Go.ChangeShapes Go.WideShapes Go.ChangeAt Go.RowKit
open Go.ChangeMaps (open_string shut_string)

theorem own : ownKnob Tryz.prog.godebug = none := by kernel_rfl
theorem reads (os : Os) {H : Type} (enc : TypeId × Value → H) : ∃ places, DataW.whole enc Tryz.prog ((World.laidAll Tryz.prog os Rows.showOnceRow.laid).forCall (fun _ _ => 0) ⟨#[], #[.string ⟨#[]⟩], []⟩).memory Tryz.f4.params.toList Rows.showOnceSpec.vars false #[Value.string ⟨#[]⟩].toList 8 = some ([.lit (.string [])], [], places) :=
  ⟨[], by kernel_rfl⟩
theorem okIn (os : Os) : Input.okWideB Tryz.prog ((World.laidAll Tryz.prog os Rows.showOnceRow.laid).forCall (fun _ _ => 0) ⟨#[], #[.string ⟨#[]⟩], []⟩) 4 ⟨#[], #[.string ⟨#[]⟩], []⟩ = true := by kernel_rfl
theorem laid_met (os : Os) : laidMetH Tryz.prog Rows.showOnceRow.laid ((World.laidAll Tryz.prog os Rows.showOnceRow.laid).forCall (fun _ _ => 0) ⟨#[], #[.string ⟨#[]⟩], []⟩).memory := by
  rw [MakeChecks.laidMetH_plain _ _ _ (by kernel_rfl)]; exact laidMet_laidAll _ (by kernel_rfl) (by kernel_rfl)

set_option maxRecDepth 100000 in
theorem lifted (os : Os) (started : os.Started) (H : Type) (enc : TypeId × Value → H) (F : Stop.Interp) :
    ReturnsInHanded {} Tryz.checked os 4 .any ((OpenSpec.ofChange Rows.showOnceSpec).preRow enc Tryz.prog Tryz.f4 Rows.showOnceRow.domain false Rows.showOnceRow.laid) (((OpenSpec.ofChange Rows.showOnceSpec).at F).post enc Tryz.prog Tryz.f4 false true false false) := by
  obtain ⟨places, hx⟩ := reads os enc
  refine returnsInHanded_of_row (C := Tryz.checked) (s := OpenSpec.ofChange Rows.showOnceSpec) own started (by kernel_rfl) Tryz.func4
    ⟨World.laidAll Tryz.prog os Rows.showOnceRow.laid, fun _ _ => 0, ⟨#[], #[.string ⟨#[]⟩], []⟩, World.laidAll_os _ _ _, World.shaped_of_ZipB (by kernel_rfl) (by kernel_rfl), (Input.okWide_of_okWideB (base := 0) (okIn os)).1, (Input.okWide_of_okWideB (okIn os)).2,
      OpenSpec.preRow_of_cond 8 hx (by kernel_rfl) (fun k hk => by cases hk) (by kernel_rfl) (laid_met os), by
        simp only [Assume.holds]
        exact ⟨by simp, by simp, fun _ => Modest.zero, by simp, by simp⟩⟩ ?_
  intro W base args ds gs before hval0 hW _ _ hsz hlaid hsh _
  obtain ⟨m, hm⟩ := Tryz.laysM144.s1_3 W hsh
  have hl1 : laidMet Tryz.prog Rows.showOnceRow.laid W := by
    rw [MakeChecks.laidMetH_plain _ _ _ (by kernel_rfl)] at hlaid
    exact hlaid
  have HPOW : Lib.TabIs Tryz.prog W "internal/strconv.uint64pow10" .u64 Lib.pow10Tab := (Lib.tabIs_of_head (n := 20) (show Tryz.prog.globalNamed "internal/strconv.uint64pow10" = some 4 by kernel_rfl) (show (Tryz.prog.globals[4]?).map (·.type) = some 177 by kernel_rfl) (show Tryz.prog.underlying 177 = some (.array 20 164) by kernel_rfl) (show Tryz.prog.underlying 164 = some (.int .u64) by kernel_rfl) (by kernel_rfl) (by kernel_rfl)
      (rest := (Rows.showOnceRow.laid.drop 3)) (show laidMet Tryz.prog (("internal/strconv.uint64pow10", Lib.tabData .u64 Lib.pow10Tab) :: Rows.showOnceRow.laid.drop 3) W from by rw [show ((("internal/strconv.uint64pow10", Lib.tabData .u64 Lib.pow10Tab) : String × DataW Unit) :: Rows.showOnceRow.laid.drop 3) = Rows.showOnceRow.laid.drop 2 by kernel_rfl]; exact hl1.tail.tail))
  have HSPC : Lib.TabIs Tryz.prog W "strings.asciiSpace" .u8 Lib.asciiSpaceTab := (Lib.tabIs_of_head (n := 256) (show Tryz.prog.globalNamed "strings.asciiSpace" = some 0 by kernel_rfl) (show (Tryz.prog.globals[0]?).map (·.type) = some 100 by kernel_rfl) (show Tryz.prog.underlying 100 = some (.array 256 5) by kernel_rfl) (show Tryz.prog.underlying 5 = some (.int .u8) by kernel_rfl) (by kernel_rfl) (by kernel_rfl)
      (rest := (Rows.showOnceRow.laid.drop 6)) (show laidMet Tryz.prog (("strings.asciiSpace", Lib.tabData .u8 Lib.asciiSpaceTab) :: Rows.showOnceRow.laid.drop 6) W from by rw [show ((("strings.asciiSpace", Lib.tabData .u8 Lib.asciiSpaceTab) : String × DataW Unit) :: Rows.showOnceRow.laid.drop 6) = Rows.showOnceRow.laid.drop 5 by kernel_rfl]; exact hl1.tail.tail.tail.tail.tail))
  have HT : Tabs W := ⟨⟨m, hm⟩, HPOW, HSPC⟩
  have hval : ∀ (j : Nat) t v, Tryz.f4.params[j]? = some t → args[j]? = some v → Value.okWide Tryz.prog W .any base t v := hval0
  have hW' := hW
  obtain ⟨p, q, hA0, hV, rfl, hfz, hnd⟩ := hW
  have hA : DataW.TrodAll enc Tryz.prog W 0 (fun _ => true) true Tryz.f4.params.toList args.toList ds p := hA0
  rw [Tryz.params4] at hA hval hsz
  obtain ⟨v0, vs0, d0, ds0, p0, q0, hargs, rfl, rfl, h0, r0⟩ := trodAll_cons hA
  obtain ⟨rfl, rfl, rfl⟩ := trodAll_nil r0
  obtain rfl : args = #[v0] := by cases args; simp_all
  obtain ⟨rfl, rfl⟩ := trodVars_none hV
  obtain ⟨a0, rfl, rfl, rfl, w0⟩ := open_string Tryz.underlying9 (hval 0 9 v0 rfl rfl) h0
  have hs0 : a0.size ≤ 140737488351232 := by
    have := sized_string hsz (j := 0) (t := 9) (bytes := a0.data.toList) rfl rfl
    simpa [reachBytes] using this
  clear hA0 hval0
  simp only [List.append_nil] at hW'
  refine (lawOnce_any HT a0).mono fun e W' ⟨he, hg⟩ => ?_
  subst he
  exact ⟨_, rfl, _, _, _, [], [], [], hW', (trodAll_cons_mk (shut_bool Tryz.underlying4 _) trodAll_mk0), (trodAll_cons_mk (shut_string Tryz.underlying9 w0) trodAll_mk0), rfl, hg.frame _, fun h => by cases h⟩

theorem said : Rows.ShowOnceSaid :=
  OpenClaim.holds_of_cond 4 Tryz.f4 rfl rfl rfl rfl rfl rfl rfl ⟨rfl, rfl, rfl, rfl, rfl⟩ rfl rfl rfl rfl rfl (by kernel_rfl) Tryz.func4 (by kernel_rfl)
    (of_decide_eq_true (by kernel_rfl)) (by unfold Func.isWrapper; first | (rw [if_pos (by decide +kernel)]; kernel_rfl) | (rw [if_neg (by decide +kernel)]; exact ⟨rfl, rfl⟩))
    (fun os started H enc _ F => by rw [OpenClaim.pre_eq_preRow]; exact lifted os started H enc F)

theorem plain (f : FuncId) (fn : Func) (hf : Tryz.pinned.checked.prog.funcNamed "warder/warderlaw06.ShowOnce" = some f) (hfn : Tryz.pinned.checked.prog.funcs[f]? = some fn) :
    false = Tryz.pinned.checked.prog.looks [] ∧ ∀ (j : Nat) t, fn.params[j]? = some t → Tryz.pinned.checked.prog.wantsStandIn t = false := by
  obtain rfl : f = 4 := Option.some.inj ((show Tryz.prog.funcNamed "warder/warderlaw06.ShowOnce" = some 4 by kernel_rfl).symm.trans hf) |>.symm
  obtain rfl : fn = Tryz.f4 := (Option.some.inj (Tryz.func4.symm.trans hfn)).symm
  refine ⟨by kernel_rfl, fun j t ht => ?_⟩
  rw [Tryz.params4] at ht
  obtain rfl : t = 9 := by simpa using Array.mem_of_getElem? ht
  exact (show Tryz.prog.wantsStandIn 9 = false by kernel_rfl)

/-- THE CARD -/
theorem proved : Rows.ShowOnceCardSaid :=
  Claim7.holds_tied_plain_at .later [] _ _ _ _ said (fun _ h => by cases h) (by kernel_rfl) (fun _ h => by cases h) showOnce_row_tie rfl ⟨rfl, rfl⟩ (by kernel_rfl) rfl plain (by kernel_rfl)
end Go.Proofs.YthhjepgcbfmfeaaGreatDoor.showOnce
