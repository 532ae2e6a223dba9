/- Contract of the law CondForms. 'warder/warderlaw05.CondForms' returns true for every input and leaves its argument as it was; no condition. The row lists package-level variables of Go's library with what they hold at the start; the card ties them to the program's text. -/
import Derived.Test.YtignjhbajjephaaDoorCf01
import Derived.Test.YtignjhbajjephaaDoorCf02
import Derived.Test.YtignjhbajjephaaDoorCards
import Derived.Test.YtignjhbajjephaaDoorTie
import Derived.Test.YtignjhbajjephaaDoorShelf
import Derived.WalkKit
import Derived.ProofKit
import Derived.OpenShut
import Derived.ChangeOld
import Derived.Below
import Derived.ShutString
import Derived.Deep.DeepHandedRow
import Derived.Lay
import Derived.Stop.Joined
import Derived.MakeChecks
import Derived.SizedLaws

namespace Go.Proofs.YtignjhbajjephaaDoor
open Go.RowKit

/-- is there an item of time? -/
def tB (o : List It) : Bool := o.any fun x => timeB x.op
theorem tB_no {o : List It} : NoTime o ↔ tB o = false := by
  unfold NoTime tB
  rw [List.any_eq_false]
  constructor
  · intro h x hx; rw [h x hx]; simp
  · intro h x hx; simpa using h x hx
theorem tB_succ {o : List It} {k : Nat} {x : It} (h : o[k]? = some x) : tB (o.take (k + 1)) = (tB (o.take k) || timeB x.op) := by
  unfold tB
  rw [List.take_add_one, h]
  simp

theorem readP_ok {T : List Tk} {prop : Bool} {i : Int} {o : List It} {a : Int} : readP T prop i = .ok o a ↔ ((bothP T prop 25).2 i = .ok o a ∧ o.length ≤ 64) := by
  unfold readP
  cases hp : (bothP T prop 25).2 i with
  | bad e l c => simp
  | ok o1 a1 =>
    dsimp only
    split
    · constructor
      · intro h; cases h
      · rintro ⟨h, h2⟩; obtain ⟨rfl, rfl⟩ := ok_inj h; omega
    · constructor
      · intro h; obtain ⟨rfl, rfl⟩ := ok_inj h; exact ⟨rfl, by omega⟩
      · rintro ⟨h, h2⟩; exact h
theorem wholeP_ok {s : ByteArray} {prop : Bool} {o : List It} {a : Int} : wholeP s prop = .ok o a ↔ ((tokRes s).er = 0 ∧ readP (tokRes s).T prop 0 = .ok o a ∧ (tkAt (tokRes s).T a).kind = 5) := by
  unfold wholeP
  split
  · rename_i q
    constructor
    · intro h; cases h
    · rintro ⟨h, _⟩; exact absurd h q
  · rename_i q
    have q0 : (tokRes s).er = 0 := by omega
    cases hp : readP (tokRes s).T prop 0 with
    | bad e l c => simp
    | ok o1 a1 =>
      dsimp only
      split
      · rename_i q5
        constructor
        · intro h; obtain ⟨rfl, rfl⟩ := ok_inj h; exact ⟨q0, rfl, q5⟩
        · rintro ⟨_, h, _⟩; exact h
      · rename_i q5
        constructor
        · intro h; cases h
        · rintro ⟨_, h, h5⟩; obtain ⟨rfl, rfl⟩ := ok_inj h; exact absurd h5 q5
theorem whole_rel1 {s : ByteArray} {o : List It} {a : Int} (h : wholeP s false = .ok o a) : wholeP s true = .ok o a ∧ tB o = false := by
  obtain ⟨h0, h1, h5⟩ := wholeP_ok.1 h
  obtain ⟨h2, h6⟩ := readP_ok.1 h1
  obtain ⟨h3, hn⟩ := (both_rel (tokRes s).T 25).2.1 _ _ _ h2
  exact ⟨wholeP_ok.2 ⟨h0, readP_ok.2 ⟨h3, h6⟩, h5⟩, tB_no.1 hn⟩
theorem whole_rel2 {s : ByteArray} {o : List It} {a : Int} (h : wholeP s true = .ok o a) (ht : tB o = false) : wholeP s false = .ok o a := by
  obtain ⟨h0, h1, h5⟩ := wholeP_ok.1 h
  obtain ⟨h2, h6⟩ := readP_ok.1 h1
  exact wholeP_ok.2 ⟨h0, readP_ok.2 ⟨(both_rel (tokRes s).T 25).2.2 _ _ _ h2 (tB_no.2 ht), h6⟩, h5⟩
theorem whole_form {s : ByteArray} {prop : Bool} {o : List It} {a : Int} (h : wholeP s prop = .ok o a) : putN o 0 = some 1 ∧ 0 < o.length ∧ o.length ≤ 64 := by
  obtain ⟨h0, h1, h5⟩ := wholeP_ok.1 h
  obtain ⟨h2, h6⟩ := readP_ok.1 h1
  exact ⟨(both_forms (tokRes s).T prop 25).2 _ _ _ h2 0, (both_full (tokRes s).T prop 25).2 _ _ _ h2, h6⟩
theorem whole_no {s : ByteArray} {prop : Bool} {e l c : Int} (h : wholeP s prop = .bad e l c) : e ≠ 0 := by
  unfold wholeP at h
  split at h
  · rename_i q; simp only [PR.bad.injEq] at h; omega
  · cases hp : readP (tokRes s).T prop 0 with
    | bad e1 l1 c1 => rw [hp] at h; simp only [PR.bad.injEq] at h; have := readP_no hp; omega
    | ok o1 a1 =>
      rw [hp] at h
      dsimp only at h
      split at h
      · cases h
      · simp only [PR.bad.injEq] at h; omega

set_option maxRecDepth 100000 in
set_option maxHeartbeats 8000000 in
theorem lawForms_any (s : ByteArray) (w : World) (hm : MaxCell w) (hs : s.size ≤ 140737488351232) :
    Calls Tryd.prog 5 #[.string s] w fun e w' => e = .returned (.bool true) ∧ Below w.heap.size w w' := by
  have HM := Lib.hid hm
  have HZ : Hid (0 < w.heap.size) := by obtain ⟨m, hm⟩ := hm; exact World.block_lt_of_cell? w _ hm
  by_cases hbig : 3000 < s.size
  · have hbz : (3000 : Int) < s.size := by omega
    clear hm
    go_enter Tryd.func5, Tryd.ntmps5
    go_wp2_with fail
    refine (awake05 _ HM.out).mono ?_
    rintro e w2 ⟨rfl, hb2⟩
    go_wp2
    go_ret
    exact ⟨rfl, hb2⟩
  · have hbz : (s.size : Int) ≤ 3000 := by omega
    have HW0 := Lib.hid (whole_any s false w hm (by omega))
    have HW1 := Lib.hid (fun (W : World) (hW : Below w.heap.size w W) => whole_any s true W (HM.out.below hW HZ.out) (by omega))
    cases h0 : wholeP s false with
    | ok o a =>
      obtain ⟨h1, htb⟩ := whole_rel1 h0
      have HFM := Lib.hid (whole_form h0)
      have HTB := Lib.hid htb
      have HP0 := Lib.hid h0; have HP1 := Lib.hid h1
      have hlo : o.length ≤ 5000 := by have := HFM.out.2.2; omega
      clear h0 h1 htb hm
      go_enter Tryd.func5, Tryd.ntmps5
      go_wp2_with fail
      refine HW0.out.mono ?_
      rw [HP0.out]
      rintro e w1 ⟨v0, rfl, hown, hb1⟩
      obtain ⟨ad0, cap0, hv⟩ := owns_len hown
      subst hv
      have HR0 := Lib.hid (ItRow.alloc ⟨_, hown⟩ (.cells #[.int .i64 0, .int .i64 0, .int .i64 0] 29))
      have HB1 := Lib.hid (hb1.alloc hb1.size (.cells #[.int .i64 0, .int .i64 0, .int .i64 0] 29))
      have HF0 := Lib.hid (show FtB (w1.alloc (.cells #[.int .i64 0, .int .i64 0, .int .i64 0] 29)) w1.heap.size 0 0 0 from heap_alloc_new w1 _)
      clear hown hb1
      go_wp2_with fail
      refine (HW1.out _ HB1.out).mono ?_
      rw [HP1.out]
      rintro e w2 ⟨v1, rfl, hown, hb2⟩
      obtain ⟨ad1, cap1, hv⟩ := owns_len hown
      subst hv
      have HR1 := Lib.hid (ItRow.alloc ⟨_, hown⟩ (.cells #[.int .i64 0, .int .i64 0, .int .i64 0] 29))
      have HB2 := Lib.hid ((HB1.out.trans (hb2.mono HB1.out.size)).alloc (Nat.le_trans HB1.out.size hb2.size) (.cells #[.int .i64 0, .int .i64 0, .int .i64 0] 29))
      have HF0 := Lib.hid ((HF0.out.below hb2).alloc (.cells #[.int .i64 0, .int .i64 0, .int .i64 0] 29))
      have HF1 := Lib.hid (show FtB (w2.alloc (.cells #[.int .i64 0, .int .i64 0, .int .i64 0] 29)) w2.heap.size 0 0 0 from heap_alloc_new w2 _)
      have HR0 := Lib.hid ((HR0.out.keep hb2).alloc (.cells #[.int .i64 0, .int .i64 0, .int .i64 0] 29))
      clear hown hb2
      obtain ⟨p0, p1, p2⟩ := HF0.out.facts
      obtain ⟨q0, q1, q2⟩ := HF1.out.facts
      have hl0 := HF0.out.lt
      go_wp2_with fail
      refine (exact_any HR0.out HR1.out hlo).mono ?_
      rintro e w3 ⟨rfl, n, rfl⟩
      have HB3 := Lib.hid (below_drewN HB2.out n)
      go_wp2_with fail
      refine (check_any (HR0.out.drewN n) HFM.out.2.1 HFM.out.2.2 HFM.out.1).mono ?_
      rintro e w4 ⟨rfl, hb4⟩
      have HB4 := Lib.hid (HB3.out.trans (hb4.mono HB3.out.size))
      have HR4 := Lib.hid ((HR1.out.drewN n).keep hb4)
      have HB4F := Lib.hid ((HF0.out.drewN n).below hb4)
      obtain ⟨s0, s1, s2⟩ := ((HF1.out.drewN n).below hb4).facts
      obtain ⟨s3, s4, s5⟩ := HB4F.out.facts
      clear hb4 p0 p1 p2 q0 q1 q2
      go_wp2
      go_loop [7, 8] (fun u i => ∃ k : Nat, u = .bool (tB (o.take k)) ∧ i = .int .i64 k ∧ k ≤ o.length) (fun _ i => o.length - (intOf i).toNat)
      case atStart => exact ⟨0, rfl, by go_num, by omega⟩
      case round =>
        obtain ⟨k, rfl, rfl, hk⟩ := hrel
        by_cases hlt : k < o.length
        · obtain ⟨x, hx⟩ : ∃ x, o[k]? = some x := ⟨_, List.getElem?_eq_getElem hlt⟩
          have HS := Lib.hid (tB_succ hx)
          obtain ⟨tk, htk⟩ : ∃ b, tB (o.take k) = b := ⟨_, rfl⟩
          rw [htk] at HS ⊢
          clear htk
          obtain ⟨g, c1, hg, hgl, a0, _, _, _, _, _, _, _, _⟩ := HR4.out.at hx
          simp only [Value.slice.injEq, true_and] at hg
          obtain ⟨rfl, rfl⟩ := hg
          have hkz : (k : Int) < (o.length : Int) := by omega
          obtain ⟨op, hop⟩ : ∃ p, x.op = p := ⟨_, rfl⟩
          rw [hop] at a0 HS
          clear hop
          cases tk
          · have hc : (op < 11 ∧ timeB op = false) ∨ ((11 ≤ op ∧ op ≤ 14) ∧ timeB op = true) ∨ ((15 ≤ op ∧ op < 19) ∧ timeB op = false) ∨ (19 ≤ op ∧ timeB op = true) := by
              unfold timeB
              by_cases h1 : op < 11
              · exact .inl ⟨h1, by simp; omega⟩
              by_cases h2 : op ≤ 14
              · exact .inr (.inl ⟨⟨by omega, h2⟩, by simp; omega⟩)
              by_cases h3 : op < 19
              · exact .inr (.inr (.inl ⟨⟨by omega, h3⟩, by simp; omega⟩))
              · exact .inr (.inr (.inr ⟨by omega, by simp; omega⟩))
            rcases hc with ⟨hc, ht⟩ | ⟨hc, ht⟩ | ⟨hc, ht⟩ | ⟨hc, ht⟩
            all_goals (rw [ht] at HS; clear ht)
            · have d1 : decide (11 ≤ op) = false := decide_eq_false (by omega)
              have d3 : decide (19 ≤ op) = false := decide_eq_false (by omega)
              clear hx
              go_wp2
              go_round
              case rel => exact ⟨k + 1, by rw [HS.out]; rfl, by go_num, by omega⟩
              case measure => simp [intOf]; omega
            · have d1 : decide (11 ≤ op) = true := decide_eq_true (by omega)
              have d2 : decide (op ≤ 14) = true := decide_eq_true (by omega)
              clear hx
              go_wp2
              go_round
              case rel => exact ⟨k + 1, by rw [HS.out]; rfl, by go_num, by omega⟩
              case measure => simp [intOf]; omega
            · have d1 : decide (11 ≤ op) = true := decide_eq_true (by omega)
              have d2 : decide (op ≤ 14) = false := decide_eq_false (by omega)
              have d3 : decide (19 ≤ op) = false := decide_eq_false (by omega)
              clear hx
              go_wp2
              go_round
              case rel => exact ⟨k + 1, by rw [HS.out]; rfl, by go_num, by omega⟩
              case measure => simp [intOf]; omega
            · have d1 : decide (11 ≤ op) = true := decide_eq_true (by omega)
              have d2 : decide (op ≤ 14) = false := decide_eq_false (by omega)
              have d3 : decide (19 ≤ op) = true := decide_eq_true (by omega)
              clear hx
              go_wp2
              go_round
              case rel => exact ⟨k + 1, by rw [HS.out]; rfl, by go_num, by omega⟩
              case measure => simp [intOf]; omega
          · clear hx
            go_wp2
            go_round
            case rel => exact ⟨k + 1, by rw [HS.out]; rfl, by go_num, by omega⟩
            case measure => simp [intOf]; omega
        · have hkl : k = o.length := by omega
          subst hkl
          rw [List.take_length, HTB.out]
          have hkz : (o.length : Int) ≤ (o.length : Int) := by omega
          go_wp2_with fail
          refine (check_any HR4.out HFM.out.2.1 HFM.out.2.2 HFM.out.1).mono ?_
          rintro e w8 ⟨rfl, hb8⟩
          have HB8 := Lib.hid (HB4.out.trans (hb8.mono HB4.out.size))
          obtain ⟨r0, r1, r2⟩ := (HB4F.out.below hb8).facts
          clear hb8
          go_wp2_with fail
          refine (awake05 _ (HM.out.below HB8.out HZ.out)).mono ?_
          rintro e w9 ⟨rfl, hb9⟩
          have HB9 := Lib.hid (HB8.out.trans (hb9.mono HB8.out.size))
          clear hb9
          go_wp2
          go_ret
          exact ⟨rfl, HB9.out⟩
    | bad e0 l0 c0 =>
      have hne0 := whole_no h0
      have hb0 : (e0 == 0) = false := beq_eq_false_iff_ne.2 hne0
      have hb0' : (e0 != 0) = true := by simp [bne, hb0]
      have HP0 := Lib.hid h0
      cases h1 : wholeP s true with
      | bad e1 l1 c1 =>
        have hne1 := whole_no h1
        have hb1' : (e1 != 0) = true := by simp [bne, hne1]
        have HP1 := Lib.hid h1
        clear h0 h1 hm hne0 hne1
        go_enter Tryd.func5, Tryd.ntmps5
        go_wp2_with fail
        refine HW0.out.mono ?_
        rw [HP0.out]
        rintro e w1 ⟨rfl, hb1⟩
        have HB1 := Lib.hid (hb1.alloc hb1.size (.cells #[.int .i64 e0, .int .i64 l0, .int .i64 c0] 29))
        have HF0 := Lib.hid (show FtB (w1.alloc (.cells #[.int .i64 e0, .int .i64 l0, .int .i64 c0] 29)) w1.heap.size e0 l0 c0 from heap_alloc_new w1 _)
        clear hb1
        go_wp2_with fail
        refine (HW1.out _ HB1.out).mono ?_
        rw [HP1.out]
        rintro e w2 ⟨rfl, hb2⟩
        have HB2 := Lib.hid ((HB1.out.trans (hb2.mono HB1.out.size)).alloc (Nat.le_trans HB1.out.size hb2.size) (.cells #[.int .i64 e1, .int .i64 l1, .int .i64 c1] 29))
        have HF0 := Lib.hid ((HF0.out.below hb2).alloc (.cells #[.int .i64 e1, .int .i64 l1, .int .i64 c1] 29))
        have HF1 := Lib.hid (show FtB (w2.alloc (.cells #[.int .i64 e1, .int .i64 l1, .int .i64 c1] 29)) w2.heap.size e1 l1 c1 from heap_alloc_new w2 _)
        clear hb2
        obtain ⟨p0, p1, p2⟩ := HF0.out.facts
        obtain ⟨q0, q1, q2⟩ := HF1.out.facts
        have hl0 := HF0.out.lt
        go_wp2_with fail
        refine (awake05 _ (HM.out.below HB2.out HZ.out)).mono ?_
        rintro e w9 ⟨rfl, hb9⟩
        have HB9 := Lib.hid (HB2.out.trans (hb9.mono HB2.out.size))
        clear hb9
        go_wp2
        go_ret
        exact ⟨rfl, HB9.out⟩
      | ok o a =>
        have HFM := Lib.hid (whole_form h1)
        have htb : tB o = true := by
          cases h : tB o with
          | true => rfl
          | false => have := whole_rel2 h1 h; rw [h0] at this; cases this
        have HTB := Lib.hid htb
        have HP1 := Lib.hid h1
        have hlo : o.length ≤ 5000 := by have := HFM.out.2.2; omega
        clear h0 h1 hm htb hne0
        go_enter Tryd.func5, Tryd.ntmps5
        go_wp2_with fail
        refine HW0.out.mono ?_
        rw [HP0.out]
        rintro e w1 ⟨rfl, hb1⟩
        have HB1 := Lib.hid (hb1.alloc hb1.size (.cells #[.int .i64 e0, .int .i64 l0, .int .i64 c0] 29))
        have HF0 := Lib.hid (show FtB (w1.alloc (.cells #[.int .i64 e0, .int .i64 l0, .int .i64 c0] 29)) w1.heap.size e0 l0 c0 from heap_alloc_new w1 _)
        clear hb1
        go_wp2_with fail
        refine (HW1.out _ HB1.out).mono ?_
        rw [HP1.out]
        rintro e w2 ⟨v1, rfl, hown, hb2⟩
        obtain ⟨ad1, cap1, hv⟩ := owns_len hown
        subst hv
        have HR1 := Lib.hid (ItRow.alloc ⟨_, hown⟩ (.cells #[.int .i64 0, .int .i64 0, .int .i64 0] 29))
        have HB2 := Lib.hid ((HB1.out.trans (hb2.mono HB1.out.size)).alloc (Nat.le_trans HB1.out.size hb2.size) (.cells #[.int .i64 0, .int .i64 0, .int .i64 0] 29))
        have HF0 := Lib.hid ((HF0.out.below hb2).alloc (.cells #[.int .i64 0, .int .i64 0, .int .i64 0] 29))
        have HF1 := Lib.hid (show FtB (w2.alloc (.cells #[.int .i64 0, .int .i64 0, .int .i64 0] 29)) w2.heap.size 0 0 0 from heap_alloc_new w2 _)
        clear hown hb2
        obtain ⟨p0, p1, p2⟩ := HF0.out.facts
        obtain ⟨q0, q1, q2⟩ := HF1.out.facts
        have hl0 := HF0.out.lt
        have HB2F := Lib.hid HF0.out
        go_wp2
        go_loop [7, 8] (fun u i => ∃ k : Nat, u = .bool (tB (o.take k)) ∧ i = .int .i64 k ∧ k ≤ o.length) (fun _ i => o.length - (intOf i).toNat)
        case atStart => exact ⟨0, rfl, by go_num, by omega⟩
        case round =>
          obtain ⟨k, rfl, rfl, hk⟩ := hrel
          by_cases hlt : k < o.length
          · obtain ⟨x, hx⟩ : ∃ x, o[k]? = some x := ⟨_, List.getElem?_eq_getElem hlt⟩
            have HS := Lib.hid (tB_succ hx)
            obtain ⟨tk, htk⟩ : ∃ b, tB (o.take k) = b := ⟨_, rfl⟩
            rw [htk] at HS ⊢
            clear htk
            obtain ⟨g, c1, hg, hgl, a0, _, _, _, _, _, _, _, _⟩ := HR1.out.at hx
            simp only [Value.slice.injEq, true_and] at hg
            obtain ⟨rfl, rfl⟩ := hg
            have hkz : (k : Int) < (o.length : Int) := by omega
            obtain ⟨op, hop⟩ : ∃ p, x.op = p := ⟨_, rfl⟩
            rw [hop] at a0 HS
            clear hop
            cases tk
            · have hc : (op < 11 ∧ timeB op = false) ∨ ((11 ≤ op ∧ op ≤ 14) ∧ timeB op = true) ∨ ((15 ≤ op ∧ op < 19) ∧ timeB op = false) ∨ (19 ≤ op ∧ timeB op = true) := by
                unfold timeB
                by_cases h1 : op < 11
                · exact .inl ⟨h1, by simp; omega⟩
                by_cases h2 : op ≤ 14
                · exact .inr (.inl ⟨⟨by omega, h2⟩, by simp; omega⟩)
                by_cases h3 : op < 19
                · exact .inr (.inr (.inl ⟨⟨by omega, h3⟩, by simp; omega⟩))
                · exact .inr (.inr (.inr ⟨by omega, by simp; omega⟩))
              rcases hc with ⟨hc, ht⟩ | ⟨hc, ht⟩ | ⟨hc, ht⟩ | ⟨hc, ht⟩
              all_goals (rw [ht] at HS; clear ht)
              · have d1 : decide (11 ≤ op) = false := decide_eq_false (by omega)
                have d3 : decide (19 ≤ op) = false := decide_eq_false (by omega)
                clear hx
                go_wp2
                go_round
                case rel => exact ⟨k + 1, by rw [HS.out]; rfl, by go_num, by omega⟩
                case measure => simp [intOf]; omega
              · have d1 : decide (11 ≤ op) = true := decide_eq_true (by omega)
                have d2 : decide (op ≤ 14) = true := decide_eq_true (by omega)
                clear hx
                go_wp2
                go_round
                case rel => exact ⟨k + 1, by rw [HS.out]; rfl, by go_num, by omega⟩
                case measure => simp [intOf]; omega
              · have d1 : decide (11 ≤ op) = true := decide_eq_true (by omega)
                have d2 : decide (op ≤ 14) = false := decide_eq_false (by omega)
                have d3 : decide (19 ≤ op) = false := decide_eq_false (by omega)
                clear hx
                go_wp2
                go_round
                case rel => exact ⟨k + 1, by rw [HS.out]; rfl, by go_num, by omega⟩
                case measure => simp [intOf]; omega
              · have d1 : decide (11 ≤ op) = true := decide_eq_true (by omega)
                have d2 : decide (op ≤ 14) = false := decide_eq_false (by omega)
                have d3 : decide (19 ≤ op) = true := decide_eq_true (by omega)
                clear hx
                go_wp2
                go_round
                case rel => exact ⟨k + 1, by rw [HS.out]; rfl, by go_num, by omega⟩
                case measure => simp [intOf]; omega
            · clear hx
              go_wp2
              go_round
              case rel => exact ⟨k + 1, by rw [HS.out]; rfl, by go_num, by omega⟩
              case measure => simp [intOf]; omega
          · have hkl : k = o.length := by omega
            subst hkl
            rw [List.take_length, HTB.out]
            have hkz : (o.length : Int) ≤ (o.length : Int) := by omega
            go_wp2_with fail
            refine (check_any HR1.out HFM.out.2.1 HFM.out.2.2 HFM.out.1).mono ?_
            rintro e w8 ⟨rfl, hb8⟩
            have HB8 := Lib.hid (HB2.out.trans (hb8.mono HB2.out.size))
            obtain ⟨r0, r1, r2⟩ := (HB2F.out.below hb8).facts
            clear hb8
            go_wp2_with fail
            refine (awake05 _ (HM.out.below HB8.out HZ.out)).mono ?_
            rintro e w9 ⟨rfl, hb9⟩
            have HB9 := Lib.hid (HB8.out.trans (hb9.mono HB8.out.size))
            clear hb9
            go_wp2
            go_ret
            exact ⟨rfl, HB9.out⟩

end Go.Proofs.YtignjhbajjephaaDoor

namespace Go.Proofs.YtignjhbajjephaaDoor.condForms
open Go.ChangeShapes Go.WideShapes Go.ChangeAt Go.RowKit
open Go.ChangeMaps (open_string shut_string)

theorem own : ownKnob Tryd.prog.godebug = none := by kernel_rfl
theorem reads (os : Os) {H : Type} (enc : TypeId × Value → H) : ∃ places, DataW.whole enc Tryd.prog ((World.laidAll Tryd.prog os Rows.condFormsRow.laid).forCall (fun _ _ => 0) ⟨#[], #[.string ⟨#[]⟩], []⟩).memory Tryd.f5.params.toList Rows.condFormsSpec.vars false #[Value.string ⟨#[]⟩].toList 8 = some ([.lit (.string [])], [], places) :=
  ⟨[], by kernel_rfl⟩
theorem okIn (os : Os) : Input.okWideB Tryd.prog ((World.laidAll Tryd.prog os Rows.condFormsRow.laid).forCall (fun _ _ => 0) ⟨#[], #[.string ⟨#[]⟩], []⟩) 5 ⟨#[], #[.string ⟨#[]⟩], []⟩ = true := by kernel_rfl
theorem laid_met (os : Os) : laidMetH Tryd.prog Rows.condFormsRow.laid ((World.laidAll Tryd.prog os Rows.condFormsRow.laid).forCall (fun _ _ => 0) ⟨#[], #[.string ⟨#[]⟩], []⟩).memory := by
  rw [MakeChecks.laidMetH_plain _ _ _ (by kernel_rfl)]; exact laidMet_laidAll _ (by kernel_rfl) (by kernel_rfl)

set_option maxRecDepth 100000 in
theorem lifted (os : Os) (started : os.Started) (H : Type) (enc : TypeId × Value → H) (F : Stop.Interp) :
    ReturnsInHanded {} Tryd.checked os 5 .any ((OpenSpec.ofChange Rows.condFormsSpec).preRow enc Tryd.prog Tryd.f5 Rows.condFormsRow.domain false Rows.condFormsRow.laid) (((OpenSpec.ofChange Rows.condFormsSpec).at F).post enc Tryd.prog Tryd.f5 false true false false) := by
  obtain ⟨places, hx⟩ := reads os enc
  refine returnsInHanded_of_row (C := Tryd.checked) (s := OpenSpec.ofChange Rows.condFormsSpec) own started (by kernel_rfl) Tryd.func5
    ⟨World.laidAll Tryd.prog os Rows.condFormsRow.laid, fun _ _ => 0, ⟨#[], #[.string ⟨#[]⟩], []⟩, World.laidAll_os _ _ _, World.shaped_of_ZipB (by kernel_rfl) (by kernel_rfl), (Input.okWide_of_okWideB (base := 0) (okIn os)).1, (Input.okWide_of_okWideB (okIn os)).2,
      OpenSpec.preRow_of_cond 8 hx (by kernel_rfl) (fun k hk => by cases hk) (by kernel_rfl) (laid_met os), by
        simp only [Assume.holds]
        exact ⟨by simp, by simp, fun _ => Modest.zero, by simp, by simp⟩⟩ ?_
  intro W base args ds gs before hval0 hW _ _ hsz _ hsh _
  obtain ⟨m, hm⟩ := Tryd.laysM144.s1_3 W hsh
  have hval : ∀ (j : Nat) t v, Tryd.f5.params[j]? = some t → args[j]? = some v → Value.okWide Tryd.prog W .any base t v := hval0
  have hW' := hW
  obtain ⟨p, q, hA0, hV, rfl, hfz, hnd⟩ := hW
  have hA : DataW.TrodAll enc Tryd.prog W 0 (fun _ => true) true Tryd.f5.params.toList args.toList ds p := hA0
  rw [Tryd.params5] at hA hval hsz
  obtain ⟨v0, vs0, d0, ds0, p0, q0, hargs, rfl, rfl, h0, r0⟩ := trodAll_cons hA
  obtain ⟨rfl, rfl, rfl⟩ := trodAll_nil r0
  obtain rfl : args = #[v0] := by cases args; simp_all
  obtain ⟨rfl, rfl⟩ := trodVars_none hV
  obtain ⟨a0, rfl, rfl, rfl, w0⟩ := open_string Tryd.underlying9 (hval 0 9 v0 rfl rfl) h0
  clear hA0 hval0
  have w1 : a0.size ≤ 140737488351232 := by
    have := sized_string hsz (j := 0) (t := 9) (bytes := a0.data.toList) rfl rfl
    simpa [reachBytes] using this
  simp only [List.append_nil] at hW'
  refine (lawForms_any a0 W ⟨m, hm⟩ w1).mono fun e W' ⟨he, hg⟩ => ?_
  subst he
  exact ⟨_, rfl, _, _, _, [], [], [], hW', (trodAll_cons_mk (shut_bool Tryd.underlying4 _) trodAll_mk0), (trodAll_cons_mk (shut_string Tryd.underlying9 w0) trodAll_mk0), rfl, hg.frame _, fun h => by cases h⟩

theorem said : Rows.CondFormsSaid :=
  OpenClaim.holds_of_cond 5 Tryd.f5 rfl rfl rfl rfl rfl rfl rfl ⟨rfl, rfl, rfl, rfl, rfl⟩ rfl rfl rfl rfl rfl (by kernel_rfl) Tryd.func5 (by kernel_rfl)
    (of_decide_eq_true (by kernel_rfl)) (by unfold Func.isWrapper; first | (rw [if_pos (by decide +kernel)]; kernel_rfl) | (rw [if_neg (by decide +kernel)]; exact ⟨rfl, rfl⟩))
    (fun os started H enc _ F => by rw [OpenClaim.pre_eq_preRow]; exact lifted os started H enc F)

theorem plain (f : FuncId) (fn : Func) (hf : Tryd.pinned.checked.prog.funcNamed "warder/warderlaw05.CondForms" = some f) (hfn : Tryd.pinned.checked.prog.funcs[f]? = some fn) :
    false = Tryd.pinned.checked.prog.looks [] ∧ ∀ (j : Nat) t, fn.params[j]? = some t → Tryd.pinned.checked.prog.wantsStandIn t = false := by
  obtain rfl : f = 5 := Option.some.inj ((show Tryd.prog.funcNamed "warder/warderlaw05.CondForms" = some 5 by kernel_rfl).symm.trans hf) |>.symm
  obtain rfl : fn = Tryd.f5 := (Option.some.inj (Tryd.func5.symm.trans hfn)).symm
  refine ⟨by kernel_rfl, fun j t ht => ?_⟩
  rw [Tryd.params5] at ht
  obtain rfl : t = 9 := by simpa using Array.mem_of_getElem? ht
  exact (show Tryd.prog.wantsStandIn 9 = false by kernel_rfl)

/-- THE CARD -/
theorem proved : Rows.CondFormsCardSaid :=
  Claim7.holds_tied_plain_at .later [] _ _ _ _ said (fun _ h => by cases h) (by kernel_rfl) (fun _ h => by cases h) condForms_row_tie rfl ⟨rfl, rfl⟩ (by kernel_rfl) rfl plain (by kernel_rfl)
end Go.Proofs.YtignjhbajjephaaDoor.condForms
