/- Contracts of tree.Arity, push, built and Check, and of warderref04's Arity, Begin, Check and Kids, for whatever list. eval: shape. -/
import Derived.Test.YtadjnfpomjopkaaGreatSm02
import Derived.Test.YtadjnfpomjopkaaGreatSm09
import Derived.Test.YtadjnfpomjopkaaGreatSm05
import Derived.Deep.DeepCutAuto
import Derived.Test.YtadjnfpomjopkaaGreatSm08

namespace Go.Proofs.YtadjnfpomjopkaaGreat
open Go.RowKit

theorem heap_at_sizeS (w : World) (o : Obj) (n : Nat) (hn : w.heap.size = n) : (w.alloc o).heap[n]? = some o := by subst hn; exact heap_alloc_new w o
/-- an item in a block of its own -/
def ImB (w : World) (b : Nat) (x : It) : Prop := w.heap[b]? = some (.cells #[.int .i64 x.op, .string x.ln, .int .i64 x.lnum, .string x.rn, .int .i64 x.rnum, .string x.name, .string x.user, .int .i64 x.line, .int .i64 x.col] 103 (0, 0))
def itVal (x : It) : Value := .agg #[.int .i64 x.op, .string x.ln, .int .i64 x.lnum, .string x.rn, .int .i64 x.rnum, .string x.name, .string x.user, .int .i64 x.line, .int .i64 x.col]
def itObj (x : It) : Obj := .cells #[.int .i64 x.op, .string x.ln, .int .i64 x.lnum, .string x.rn, .int .i64 x.rnum, .string x.name, .string x.user, .int .i64 x.line, .int .i64 x.col] 103
theorem ImB.facts {w : World} {b : Nat} {x : It} (h : ImB w b x) :
    w.cell? ⟨b, 0, none⟩ = some (.int .i64 x.op) ∧ w.cell? ⟨b, 1, none⟩ = some (.string x.ln) ∧ w.cell? ⟨b, 2, none⟩ = some (.int .i64 x.lnum) ∧ w.cell? ⟨b, 3, none⟩ = some (.string x.rn) ∧ w.cell? ⟨b, 4, none⟩ = some (.int .i64 x.rnum) ∧ w.cell? ⟨b, 5, none⟩ = some (.string x.name) ∧
    w.cell? ⟨b, 6, none⟩ = some (.string x.user) ∧ w.cell? ⟨b, 7, none⟩ = some (.int .i64 x.line) ∧ w.cell? ⟨b, 8, none⟩ = some (.int .i64 x.col) := by
  unfold ImB at h
  refine ⟨?_, ?_, ?_, ?_, ?_, ?_, ?_, ?_, ?_⟩ <;> simp [World.cell?, h]
theorem ImB.lt {w : World} {b : Nat} {x : It} (h : ImB w b x) : b < w.heap.size := (Array.getElem?_eq_some_iff.1 h).1
theorem ImB.keep {w w' : World} {b : Nat} {x : It} (h : ImB w b x) (hb : Below w.heap.size w w') : ImB w' b x := (hb.block b h.lt).trans h
theorem ImB.drewN {w : World} {b : Nat} {x : It} (h : ImB w b x) (n : Nat) : ImB (w.drewN n) b x := h

set_option maxRecDepth 100000 in
set_option maxHeartbeats 4000000 in
theorem arity_all (w : World) (op : Int) :
    Calls Tryz.prog 122 #[.int .i64 op] w fun e w' => e = .returned (.int .i64 (arN op)) ∧ w' = w := by
  rcases (show op < 1 ∨ (1 ≤ op ∧ op ≤ 14) ∨ op = 15 ∨ op = 16 ∨ op = 17 ∨ op = 18 ∨ (19 ≤ op ∧ op ≤ 24) ∨ op = 25 ∨ op = 26 ∨ 26 < op by omega) with h | h | rfl | rfl | rfl | rfl | h | rfl | rfl | h
  · have H : Hid (arN op = -1) := by unfold Hid arN; rw [if_neg (by omega), if_neg (by omega), if_neg (by omega)]
    rw [H.out]
    clear H
    have d0 : decide ((1 : Int) ≤ op) = false := decide_eq_false (by omega)
    have d1 : decide (op ≤ (1 : Int)) = true := decide_eq_true (by omega)
    have d2 : (op == 1) = false := beq_eq_false_iff_ne.2 (by omega)
    have d3 : decide ((14 : Int) ≤ op) = false := decide_eq_false (by omega)
    have d4 : decide (op ≤ (14 : Int)) = true := decide_eq_true (by omega)
    have d5 : (op == 14) = false := beq_eq_false_iff_ne.2 (by omega)
    have d6 : decide ((15 : Int) ≤ op) = false := decide_eq_false (by omega)
    have d7 : decide (op ≤ (15 : Int)) = true := decide_eq_true (by omega)
    have d8 : (op == 15) = false := beq_eq_false_iff_ne.2 (by omega)
    have d9 : decide ((16 : Int) ≤ op) = false := decide_eq_false (by omega)
    have d10 : decide (op ≤ (16 : Int)) = true := decide_eq_true (by omega)
    have d11 : (op == 16) = false := beq_eq_false_iff_ne.2 (by omega)
    have d12 : decide ((17 : Int) ≤ op) = false := decide_eq_false (by omega)
    have d13 : decide (op ≤ (17 : Int)) = true := decide_eq_true (by omega)
    have d14 : (op == 17) = false := beq_eq_false_iff_ne.2 (by omega)
    have d15 : decide ((18 : Int) ≤ op) = false := decide_eq_false (by omega)
    have d16 : decide (op ≤ (18 : Int)) = true := decide_eq_true (by omega)
    have d17 : (op == 18) = false := beq_eq_false_iff_ne.2 (by omega)
    have d18 : decide ((19 : Int) ≤ op) = false := decide_eq_false (by omega)
    have d19 : decide (op ≤ (19 : Int)) = true := decide_eq_true (by omega)
    have d20 : (op == 19) = false := beq_eq_false_iff_ne.2 (by omega)
    have d21 : decide ((24 : Int) ≤ op) = false := decide_eq_false (by omega)
    have d22 : decide (op ≤ (24 : Int)) = true := decide_eq_true (by omega)
    have d23 : (op == 24) = false := beq_eq_false_iff_ne.2 (by omega)
    have d24 : decide ((25 : Int) ≤ op) = false := decide_eq_false (by omega)
    have d25 : decide (op ≤ (25 : Int)) = true := decide_eq_true (by omega)
    have d26 : (op == 25) = false := beq_eq_false_iff_ne.2 (by omega)
    have d27 : decide ((26 : Int) ≤ op) = false := decide_eq_false (by omega)
    have d28 : decide (op ≤ (26 : Int)) = true := decide_eq_true (by omega)
    have d29 : (op == 26) = false := beq_eq_false_iff_ne.2 (by omega)
    clear h
    go_enter Tryz.func122, Tryz.ntmps122
    go_wp2
    go_ret
    exact ⟨rfl, rfl⟩
  · have H : Hid (arN op = 0) := by unfold Hid arN; rw [if_pos (by omega)]
    rw [H.out]
    clear H
    have d0 : decide ((1 : Int) ≤ op) = true := decide_eq_true (by omega)
    have d1 : decide (op ≤ (14 : Int)) = true := decide_eq_true (by omega)
    have d2 : decide ((15 : Int) ≤ op) = false := decide_eq_false (by omega)
    have d3 : decide (op ≤ (15 : Int)) = true := decide_eq_true (by omega)
    have d4 : (op == 15) = false := beq_eq_false_iff_ne.2 (by omega)
    have d5 : decide ((16 : Int) ≤ op) = false := decide_eq_false (by omega)
    have d6 : decide (op ≤ (16 : Int)) = true := decide_eq_true (by omega)
    have d7 : (op == 16) = false := beq_eq_false_iff_ne.2 (by omega)
    have d8 : decide ((17 : Int) ≤ op) = false := decide_eq_false (by omega)
    have d9 : decide (op ≤ (17 : Int)) = true := decide_eq_true (by omega)
    have d10 : (op == 17) = false := beq_eq_false_iff_ne.2 (by omega)
    have d11 : decide ((18 : Int) ≤ op) = false := decide_eq_false (by omega)
    have d12 : decide (op ≤ (18 : Int)) = true := decide_eq_true (by omega)
    have d13 : (op == 18) = false := beq_eq_false_iff_ne.2 (by omega)
    have d14 : decide ((19 : Int) ≤ op) = false := decide_eq_false (by omega)
    have d15 : decide (op ≤ (19 : Int)) = true := decide_eq_true (by omega)
    have d16 : (op == 19) = false := beq_eq_false_iff_ne.2 (by omega)
    have d17 : decide ((24 : Int) ≤ op) = false := decide_eq_false (by omega)
    have d18 : decide (op ≤ (24 : Int)) = true := decide_eq_true (by omega)
    have d19 : (op == 24) = false := beq_eq_false_iff_ne.2 (by omega)
    have d20 : decide ((25 : Int) ≤ op) = false := decide_eq_false (by omega)
    have d21 : decide (op ≤ (25 : Int)) = true := decide_eq_true (by omega)
    have d22 : (op == 25) = false := beq_eq_false_iff_ne.2 (by omega)
    have d23 : decide ((26 : Int) ≤ op) = false := decide_eq_false (by omega)
    have d24 : decide (op ≤ (26 : Int)) = true := decide_eq_true (by omega)
    have d25 : (op == 26) = false := beq_eq_false_iff_ne.2 (by omega)
    clear h
    go_enter Tryz.func122, Tryz.ntmps122
    go_wp2
    go_ret
    exact ⟨rfl, rfl⟩
  · have H : Hid (arN 15 = 1) := rfl
    rw [H.out]
    clear H
    go_enter Tryz.func122, Tryz.ntmps122
    go_wp2
    go_ret
    exact ⟨rfl, rfl⟩
  · have H : Hid (arN 16 = 2) := rfl
    rw [H.out]
    clear H
    go_enter Tryz.func122, Tryz.ntmps122
    go_wp2
    go_ret
    exact ⟨rfl, rfl⟩
  · have H : Hid (arN 17 = 2) := rfl
    rw [H.out]
    clear H
    go_enter Tryz.func122, Tryz.ntmps122
    go_wp2
    go_ret
    exact ⟨rfl, rfl⟩
  · have H : Hid (arN 18 = 2) := rfl
    rw [H.out]
    clear H
    go_enter Tryz.func122, Tryz.ntmps122
    go_wp2
    go_ret
    exact ⟨rfl, rfl⟩
  · have H : Hid (arN op = 1) := by unfold Hid arN; rw [if_neg (by omega), if_pos (by omega)]
    rw [H.out]
    clear H
    have d0 : decide ((1 : Int) ≤ op) = true := decide_eq_true (by omega)
    have d1 : decide (op ≤ (1 : Int)) = false := decide_eq_false (by omega)
    have d2 : (op == 1) = false := beq_eq_false_iff_ne.2 (by omega)
    have d3 : decide ((14 : Int) ≤ op) = true := decide_eq_true (by omega)
    have d4 : decide (op ≤ (14 : Int)) = false := decide_eq_false (by omega)
    have d5 : (op == 14) = false := beq_eq_false_iff_ne.2 (by omega)
    have d6 : decide ((15 : Int) ≤ op) = true := decide_eq_true (by omega)
    have d7 : decide (op ≤ (15 : Int)) = false := decide_eq_false (by omega)
    have d8 : (op == 15) = false := beq_eq_false_iff_ne.2 (by omega)
    have d9 : decide ((16 : Int) ≤ op) = true := decide_eq_true (by omega)
    have d10 : decide (op ≤ (16 : Int)) = false := decide_eq_false (by omega)
    have d11 : (op == 16) = false := beq_eq_false_iff_ne.2 (by omega)
    have d12 : decide ((17 : Int) ≤ op) = true := decide_eq_true (by omega)
    have d13 : decide (op ≤ (17 : Int)) = false := decide_eq_false (by omega)
    have d14 : (op == 17) = false := beq_eq_false_iff_ne.2 (by omega)
    have d15 : decide ((18 : Int) ≤ op) = true := decide_eq_true (by omega)
    have d16 : decide (op ≤ (18 : Int)) = false := decide_eq_false (by omega)
    have d17 : (op == 18) = false := beq_eq_false_iff_ne.2 (by omega)
    have d18 : decide ((19 : Int) ≤ op) = true := decide_eq_true (by omega)
    have d19 : decide (op ≤ (24 : Int)) = true := decide_eq_true (by omega)
    have d20 : decide ((25 : Int) ≤ op) = false := decide_eq_false (by omega)
    have d21 : decide (op ≤ (25 : Int)) = true := decide_eq_true (by omega)
    have d22 : (op == 25) = false := beq_eq_false_iff_ne.2 (by omega)
    have d23 : decide ((26 : Int) ≤ op) = false := decide_eq_false (by omega)
    have d24 : decide (op ≤ (26 : Int)) = true := decide_eq_true (by omega)
    have d25 : (op == 26) = false := beq_eq_false_iff_ne.2 (by omega)
    clear h
    go_enter Tryz.func122, Tryz.ntmps122
    go_wp2
    go_ret
    exact ⟨rfl, rfl⟩
  · have H : Hid (arN 25 = 2) := rfl
    rw [H.out]
    clear H
    go_enter Tryz.func122, Tryz.ntmps122
    go_wp2
    go_ret
    exact ⟨rfl, rfl⟩
  · have H : Hid (arN 26 = 2) := rfl
    rw [H.out]
    clear H
    go_enter Tryz.func122, Tryz.ntmps122
    go_wp2
    go_ret
    exact ⟨rfl, rfl⟩
  · have H : Hid (arN op = -1) := by unfold Hid arN; rw [if_neg (by omega), if_neg (by omega), if_neg (by omega)]
    rw [H.out]
    clear H
    have d0 : decide ((1 : Int) ≤ op) = true := decide_eq_true (by omega)
    have d1 : decide (op ≤ (1 : Int)) = false := decide_eq_false (by omega)
    have d2 : (op == 1) = false := beq_eq_false_iff_ne.2 (by omega)
    have d3 : decide ((14 : Int) ≤ op) = true := decide_eq_true (by omega)
    have d4 : decide (op ≤ (14 : Int)) = false := decide_eq_false (by omega)
    have d5 : (op == 14) = false := beq_eq_false_iff_ne.2 (by omega)
    have d6 : decide ((15 : Int) ≤ op) = true := decide_eq_true (by omega)
    have d7 : decide (op ≤ (15 : Int)) = false := decide_eq_false (by omega)
    have d8 : (op == 15) = false := beq_eq_false_iff_ne.2 (by omega)
    have d9 : decide ((16 : Int) ≤ op) = true := decide_eq_true (by omega)
    have d10 : decide (op ≤ (16 : Int)) = false := decide_eq_false (by omega)
    have d11 : (op == 16) = false := beq_eq_false_iff_ne.2 (by omega)
    have d12 : decide ((17 : Int) ≤ op) = true := decide_eq_true (by omega)
    have d13 : decide (op ≤ (17 : Int)) = false := decide_eq_false (by omega)
    have d14 : (op == 17) = false := beq_eq_false_iff_ne.2 (by omega)
    have d15 : decide ((18 : Int) ≤ op) = true := decide_eq_true (by omega)
    have d16 : decide (op ≤ (18 : Int)) = false := decide_eq_false (by omega)
    have d17 : (op == 18) = false := beq_eq_false_iff_ne.2 (by omega)
    have d18 : decide ((19 : Int) ≤ op) = true := decide_eq_true (by omega)
    have d19 : decide (op ≤ (19 : Int)) = false := decide_eq_false (by omega)
    have d20 : (op == 19) = false := beq_eq_false_iff_ne.2 (by omega)
    have d21 : decide ((24 : Int) ≤ op) = true := decide_eq_true (by omega)
    have d22 : decide (op ≤ (24 : Int)) = false := decide_eq_false (by omega)
    have d23 : (op == 24) = false := beq_eq_false_iff_ne.2 (by omega)
    have d24 : decide ((25 : Int) ≤ op) = true := decide_eq_true (by omega)
    have d25 : decide (op ≤ (25 : Int)) = false := decide_eq_false (by omega)
    have d26 : (op == 25) = false := beq_eq_false_iff_ne.2 (by omega)
    have d27 : decide ((26 : Int) ≤ op) = true := decide_eq_true (by omega)
    have d28 : decide (op ≤ (26 : Int)) = false := decide_eq_false (by omega)
    have d29 : (op == 26) = false := beq_eq_false_iff_ne.2 (by omega)
    clear h
    go_enter Tryz.func122, Tryz.ntmps122
    go_wp2
    go_ret
    exact ⟨rfl, rfl⟩

theorem info_nodeS : (Tryz.prog.info? 163).map (fun i => (i.zero, i.size, i.bytes)) = some (some .nilIface, 1, 16) := by kernel_rfl
theorem owns_shrink1S {w : World} {base : Nat} {e : TypeId} {g n cap m : Nat} {xs : List Value} (h : w.ownsRow base e 1 (.slice (some ⟨g, 0, none⟩) n cap) n xs) (hm : m ≤ n) : w.ownsRow base e 1 (.slice (some ⟨g, 0, none⟩) m cap) m (xs.take m) := by
  rcases h.2 with ⟨h0, _⟩ | ⟨g', cap', cur, hv, hb, hg, hn, hc, hs, ht⟩
  · cases h0
  · cases hv
    exact ⟨by rw [List.length_take, h.1]; omega, .inr ⟨g, cap, cur, rfl, hb, hg, by omega, hc, hs, by rw [← ht, List.take_take, Nat.min_eq_left (by omega)]; simp⟩⟩
theorem owns_capS {w : World} {base : Nat} {e : TypeId} {g n cap sz : Nat} {xs : List Value} (h : w.ownsRow base e sz (.slice (some ⟨g, 0, none⟩) n cap) n xs) : n ≤ cap ∧ cap ≤ maxLen := by
  rcases h.2 with ⟨h0, _⟩ | ⟨g', cap', cur, hv, hb, hg, hn, hc, hs, ht⟩
  · cases h0
  · cases hv; exact ⟨hn, hc⟩

/-- formulas as values -/
def AllIfS (xs : List Value) : Prop := ∀ x ∈ xs, ∃ t u, x = .iface t u
theorem AllIfS.snoc {xs : List Value} (h : AllIfS xs) (t : TypeId) (u : Value) : AllIfS (xs ++ [.iface t u]) := fun x hx => by
  rcases List.mem_append.1 hx with hx | hx
  · exact h x hx
  · exact ⟨t, u, by simpa using hx⟩
theorem AllIfS.take {xs : List Value} (h : AllIfS xs) (n : Nat) : AllIfS (xs.take n) := fun x hx => h x (List.mem_of_mem_take hx)
theorem AllIfS.at {xs : List Value} (h : AllIfS xs) {n : Nat} (hn : n < xs.length) : ∃ t u, xs[n]? = some (.iface t u) := by
  obtain ⟨t, u, e⟩ := h _ (List.getElem_mem hn)
  exact ⟨t, u, by rw [List.getElem?_eq_getElem hn, e]⟩

/-- what push leaves: a row of so many formulas that is owned -/
def PushedS (base n : Nat) (w : World) (e : Ending) (w' : World) : Prop :=
  ∃ v xs, e = .returned (.tuple #[v, .bool true]) ∧ w'.ownsRow base 163 1 v n xs ∧ AllIfS xs ∧ Below base w w'

set_option maxRecDepth 100000 in
set_option maxHeartbeats 2000000 in
theorem push_leafS {w : World} {base n : Nat} {v : Value} {xs : List Value} (h : w.ownsRow base 163 1 v n xs) (hI : AllIfS xs) (hB : base ≤ w.heap.size) (hn : n ≤ 64) (op at_ : Int) (hop : arN op = 0) :
    Calls Tryz.prog 121 #[v, .int .i64 op, .int .i64 at_] w (PushedS base (n + 1) w) := by
  obtain ⟨ad, cap, hv⟩ := owns_len h
  subst hv
  have HR := Lib.hid h
  have HC := Lib.hid (arity_all w op)
  have HOP := Lib.hid hop
  have HI := Lib.hid hI
  clear h hop hI
  go_enter Tryz.func121, Tryz.ntmps121
  go_wp2_with fail
  refine HC.out.mono ?_
  rw [HOP.out]
  rintro e w2 ⟨rfl, hw⟩
  rw [hw]
  clear hw
  go_wp2_with (at_builtin; refine app1 _ #[.iface 171 (.agg #[.int .i64 at_])] rfl _ _ 167 rfl base 163 .nilIface 1 16 Tryz.underlying167 info_nodeS rfl (by decide) (by decide) _ _ _ rfl (by exact HR.out) rfl (by simp) rfl (by simp [Value.oneCell']) (by omega) hB ?_; intro v' w3 hown3 _ hbel)
  have HO := Lib.hid hown3; have HBL := Lib.hid hbel
  clear hown3 hbel
  go_wp2
  refine bodyPost_ret (v := .tuple #[v', .bool true]) (by simp [results, Tryz.results121, go_sem]) rfl ?_
  exact ⟨_, _, rfl, HO.out, HI.out.snoc _ _, HBL.out⟩

def ldQ1 : Op := Op.load 163 (Operand.tmp 38)
theorem ldQ1_is : Op.load 163 (Operand.tmp 38) = ldQ1 := rfl
attribute [local go_sem] ldQ1

set_option maxRecDepth 100000 in
set_option maxHeartbeats 2000000 in
theorem push_oneS {w : World} {base n : Nat} {v : Value} {xs : List Value} (h : w.ownsRow base 163 1 v (n + 1) xs) (hI : AllIfS xs) (hB : base ≤ w.heap.size) (hn : n ≤ 64) (op at_ : Int) (hop : arN op = 1) :
    Calls Tryz.prog 121 #[v, .int .i64 op, .int .i64 at_] w (PushedS base (n + 1) w) := by
  obtain ⟨g, cap, hv, hg, hgs⟩ := owns_shape h (by omega)
  subst hv
  obtain ⟨t0, u0, hx0⟩ := hI.at (n := n) (by rw [h.1]; omega)
  have c0 := (World.ownsRow.cellAt h n (by omega)).trans hx0
  have hcap := owns_capS h
  have hnc : n ≤ cap := by omega
  have hcm : cap ≤ maxLen := hcap.2
  have HR := Lib.hid (owns_shrink1S h (show n ≤ n + 1 by omega))
  have HC := Lib.hid (arity_all w op)
  have HOP := Lib.hid hop
  have hz : (0 : Int) ≤ (n : Int) := by omega
  have hzc : (n : Int) ≤ (cap : Int) := by omega
  have hz1 : (n : Int) < (n : Int) + 1 := by omega
  have hw0 : IntKind.i64.wrap (n : Int) = n := IntWalk.i64_in _ ⟨by omega, by omega⟩
  have hw1 : IntKind.i64.wrap ((n : Int) + 1 - 1) = n := by rw [show (n : Int) + 1 - 1 = n by omega]; exact hw0
  obtain ⟨i0, hi0, hz0, hz1, hz2⟩ := info_parts info_nodeS
  have HIP := Lib.hid (And.intro hi0 (And.intro hz0 (And.intro hz1 hz2)))
  have HI := Lib.hid hI
  clear h hop hI hcap hi0 hz0 hz1 hz2 hx0
  go_enter Tryz.func121, Tryz.ntmps121
  go_wp2_with fail
  refine HC.out.mono ?_
  rw [HOP.out]
  rintro e w2 ⟨rfl, hw⟩
  rw [hw]
  clear hw
  go_wp2
  rw [ldQ1_is]
  first
  | (go_region_held3 (fun _ => True)
      (trivial)
      ((refine step_append_lies _ (by rfl) _ _ _ (by rfl) base 163 i0 _ 1 16 Tryz.underlying167 HIP.out.1 HIP.out.2.1 HIP.out.2.2.1 HIP.out.2.2.2 rfl (by omega) _ n (xs.take n) (by rfl) (World.ownsRow.alloc (World.ownsRow.drew HR.out) _) ⟨w.heap.size, 0, none⟩ 1 1 [(.iface 173 (.agg #[.int .i64 at_, .iface t0 u0]))] (by rfl) (by rfl) (World.news_of_block (cs := #[(.iface 173 (.agg #[.int .i64 at_, .iface t0 u0]))]) (t := 163) (fr := (0, 0)) (heap_at_sizeS _ _ _ (by simp))) (by simp [Value.oneCell']) (by omega) (by unfold maxLen; omega) (by omega) (by simp; omega) (w.heap.size + 1) (by simp) ?_
        intro g3 cap3 w3 hown3 hgrow hat hlt3
        have HO := Lib.hid hown3
        have HBL := Lib.hid ((((Below.refl base w).drew).alloc (show base ≤ w.heap.size from hB) _).grown hgrow (by simp; omega) (fun k e => (HR.out.lt k e).1))
        clear hown3 hgrow hat)))
  | fail
  all_goals
    go_wp2
    refine bodyPost_ret (v := .tuple #[.slice (some ⟨g3, 0, none⟩) (n + 1) cap3, .bool true]) (by simp [results, Tryz.results121, go_sem]) rfl ?_
    exact ⟨_, _, rfl, HO.out, (HI.out.take n).snoc _ _, HBL.out⟩

def ldQ2 : Op := Op.load 163 (Operand.tmp 59)
theorem ldQ2_is : Op.load 163 (Operand.tmp 59) = ldQ2 := rfl
def ldQ3 : Op := Op.load 163 (Operand.tmp 64)
theorem ldQ3_is : Op.load 163 (Operand.tmp 64) = ldQ3 := rfl
attribute [local go_sem] ldQ2 ldQ3

set_option maxRecDepth 100000 in
set_option maxHeartbeats 2000000 in
theorem push_twoS {w : World} {base n : Nat} {v : Value} {xs : List Value} (h : w.ownsRow base 163 1 v (n + 2) xs) (hI : AllIfS xs) (hB : base ≤ w.heap.size) (hn : n ≤ 64) (op at_ : Int) (hop : arN op = 2) :
    Calls Tryz.prog 121 #[v, .int .i64 op, .int .i64 at_] w (PushedS base (n + 1) w) := by
  obtain ⟨g, cap, hv, hg, hgs⟩ := owns_shape h (by omega)
  subst hv
  obtain ⟨t0, u0, hx0⟩ := hI.at (n := n) (by rw [h.1]; omega)
  have c0 := (World.ownsRow.cellAt h n (by omega)).trans hx0
  obtain ⟨t1, u1, hx1⟩ := hI.at (n := n + 1) (by rw [h.1]; omega)
  have c1 := (World.ownsRow.cellAt h (n + 1) (by omega)).trans hx1
  have hcap := owns_capS h
  have hnc : n ≤ cap := by omega
  have hcm : cap ≤ maxLen := hcap.2
  have HR := Lib.hid (owns_shrink1S h (show n ≤ n + 2 by omega))
  have HC := Lib.hid (arity_all w op)
  have HOP := Lib.hid hop
  have hz : (0 : Int) ≤ (n : Int) := by omega
  have hzc : (n : Int) ≤ (cap : Int) := by omega
  have hz1 : (n : Int) < (n : Int) + 2 := by omega
  have hw0 : IntKind.i64.wrap (n : Int) = n := IntWalk.i64_in _ ⟨by omega, by omega⟩
  have hw1 : IntKind.i64.wrap ((n : Int) + 2 - 2) = n := by rw [show (n : Int) + 2 - 2 = n by omega]; exact hw0
  have hw2 : IntKind.i64.wrap ((n : Int) + 2 - 1) = (n : Int) + 1 := by rw [show (n : Int) + 2 - 1 = (n : Int) + 1 by omega]; exact IntWalk.i64_in _ ⟨by omega, by omega⟩
  have hw3 : IntKind.i64.wrap ((n : Int) + 1) = (n : Int) + 1 := IntWalk.i64_in _ ⟨by omega, by omega⟩
  have hz2 : (n : Int) + 1 < (n : Int) + 2 := by omega
  have hz3 : (0 : Int) ≤ (n : Int) + 1 := by omega
  have ht2 : ((n : Int) + 1).toNat = n + 1 := by omega
  obtain ⟨i0, hi0, hz0, hz1, hz2⟩ := info_parts info_nodeS
  have HIP := Lib.hid (And.intro hi0 (And.intro hz0 (And.intro hz1 hz2)))
  have HI := Lib.hid hI
  clear h hop hI hcap hi0 hz0 hz1 hz2 hx0 hx1
  go_enter Tryz.func121, Tryz.ntmps121
  go_wp2_with fail
  refine HC.out.mono ?_
  rw [HOP.out]
  rintro e w2 ⟨rfl, hw⟩
  rw [hw]
  clear hw
  go_wp2
  rw [ldQ2_is, ldQ3_is]
  first
  | (go_region_held3 (fun _ => True)
      (trivial)
      ((refine step_append_lies _ (by rfl) _ _ _ (by rfl) base 163 i0 _ 1 16 Tryz.underlying167 HIP.out.1 HIP.out.2.1 HIP.out.2.2.1 HIP.out.2.2.2 rfl (by omega) _ n (xs.take n) (by rfl) (World.ownsRow.alloc (World.ownsRow.drew HR.out) _) ⟨w.heap.size, 0, none⟩ 1 1 [(.iface 175 (.agg #[.int .i64 at_, .iface t0 u0, .iface t1 u1]))] (by rfl) (by rfl) (World.news_of_block (cs := #[(.iface 175 (.agg #[.int .i64 at_, .iface t0 u0, .iface t1 u1]))]) (t := 163) (fr := (0, 0)) (heap_at_sizeS _ _ _ (by simp))) (by simp [Value.oneCell']) (by omega) (by unfold maxLen; omega) (by omega) (by simp; omega) (w.heap.size + 1) (by simp) ?_
        intro g3 cap3 w3 hown3 hgrow hat hlt3
        have HO := Lib.hid hown3
        have HBL := Lib.hid ((((Below.refl base w).drew).alloc (show base ≤ w.heap.size from hB) _).grown hgrow (by simp; omega) (fun k e => (HR.out.lt k e).1))
        clear hown3 hgrow hat)))
  | fail
  all_goals
    go_wp2
    refine bodyPost_ret (v := .tuple #[.slice (some ⟨g3, 0, none⟩) (n + 1) cap3, .bool true]) (by simp [results, Tryz.results121, go_sem]) rfl ?_
    exact ⟨_, _, rfl, HO.out, (HI.out.take n).snoc _ _, HBL.out⟩

/-- what push leaves -/
def PushPost (base : Nat) (x : It) (R : List Fm) (v : Value) (w : World) (e : Ending) (w' : World) : Prop :=
  match pushF x R with
  | some S => PushedS base S.length w e w'
  | none => e = .returned (.tuple #[v, .bool false]) ∧ w' = w
set_option maxRecDepth 100000 in
set_option maxHeartbeats 2000000 in
theorem push_no {w : World} {ad : Option Addr} {n cap : Nat} (op at_ : Int) (h : arN op = -1 ∨ (arN op = 1 ∧ n = 0) ∨ (arN op = 2 ∧ n = 0) ∨ (arN op = 2 ∧ n = 1)) :
    Calls Tryz.prog 121 #[.slice ad n cap, .int .i64 op, .int .i64 at_] w fun e w' => e = .returned (.tuple #[.slice ad n cap, .bool false]) ∧ w' = w := by
  have HC := Lib.hid (arity_all w op)
  rcases h with h | ⟨h, rfl⟩ | ⟨h, rfl⟩ | ⟨h, rfl⟩
  all_goals
    have HOP := Lib.hid h
    clear h
    go_enter Tryz.func121, Tryz.ntmps121
    go_wp2_with fail
    refine HC.out.mono ?_
    rw [HOP.out]
    rintro e w2 ⟨rfl, hw⟩
    rw [hw]
    clear hw
    go_wp2
    go_ret2
    exact ⟨rfl, rfl⟩
theorem push_all {w : World} {base : Nat} {v : Value} {xs : List Value} {R : List Fm} (h : w.ownsRow base 163 1 v R.length xs) (hI : AllIfS xs) (hB : base ≤ w.heap.size) (hn : R.length ≤ 64) (x : It) (at_ : Int) :
    Calls Tryz.prog 121 #[v, .int .i64 x.op, .int .i64 at_] w (PushPost base x R v w) := by
  obtain ⟨ad, cap, hv⟩ := owns_len h
  unfold PushPost pushF
  have := arN_in x.op
  by_cases h0 : arN x.op = 0
  · rw [dif_pos h0]
    exact push_leafS h hI hB hn x.op at_ h0
  rw [dif_neg h0]
  by_cases h1 : arN x.op = 1
  · rw [dif_pos h1]
    cases R with
    | nil => subst hv; exact push_no x.op at_ (.inr (.inl ⟨h1, rfl⟩))
    | cons f S => exact push_oneS h hI hB (by simp at hn; omega) x.op at_ h1
  rw [dif_neg h1]
  by_cases h2 : arN x.op = 2
  · rw [dif_pos h2]
    match R, h, hn, hv with
    | [], h, hn, hv => subst hv; exact push_no x.op at_ (.inr (.inr (.inl ⟨h2, rfl⟩)))
    | [f], h, hn, hv => subst hv; exact push_no x.op at_ (.inr (.inr (.inr ⟨h2, rfl⟩)))
    | g :: f :: S, h, hn, hv => exact push_twoS h hI hB (by simp at hn; omega) x.op at_ h2
  rw [dif_neg h2]
  subst hv
  exact push_no x.op at_ (.inl (by omega))

theorem treeF_none {l : List It} {k : Nat} {R : List Fm} {x : It} (hk : l[k]? = some x) (hP : buildF (l.drop k) R = buildF l []) (hx : pushF x R = none) : treeF l = none := by
  have hd : l.drop k = x :: l.drop (k + 1) := by
    rw [List.drop_eq_getElem_cons (List.getElem?_eq_some_iff.1 hk).1]
    congr 1
    exact Option.some.inj ((List.getElem?_eq_getElem _).symm.trans hk)
  rw [hd, buildF, hx] at hP
  unfold treeF; rw [← hP]
theorem buildF_next {l : List It} {k : Nat} {R S : List Fm} {x : It} (hk : l[k]? = some x) (hP : buildF (l.drop k) R = buildF l []) (hx : pushF x R = some S) : buildF (l.drop (k + 1)) S = buildF l [] := by
  have hd : l.drop k = x :: l.drop (k + 1) := by
    rw [List.drop_eq_getElem_cons (List.getElem?_eq_some_iff.1 hk).1]
    congr 1
    exact Option.some.inj ((List.getElem?_eq_getElem _).symm.trans hk)
  rw [hd, buildF, hx] at hP
  exact hP
def oneFm : List Fm → Option Fm
  | [f] => some f
  | _ => none
theorem treeF_end {l : List It} {R : List Fm} (hP : buildF (l.drop l.length) R = buildF l []) : treeF l = oneFm R := by
  rw [List.drop_length, buildF] at hP
  unfold treeF; rw [← hP]
  match R with
  | [] => rfl
  | [f] => rfl
  | f :: g :: S => rfl
/-- what built says -/
def BuiltPost (w : World) (c : Int) (e : Ending) (w' : World) : Prop := ∃ nd, e = .returned (.tuple #[nd, .int .i64 c]) ∧ Below w.heap.size w w'

set_option maxRecDepth 100000 in
set_option maxHeartbeats 4000000 in
theorem built_all {w : World} {v : Value} {O : List It} (h : ItIn w v O) :
    Calls Tryz.prog 118 #[v] w (BuiltPost w (chkN O)) := by
  obtain ⟨ad, cap, hv⟩ := h.len
  subst hv
  by_cases hl0 : O.length = 0
  · have H : Hid (chkN O = 12) := by unfold Hid chkN; rw [if_pos hl0]
    rw [H.out]
    have hz0 : ((O.length : Int) == 0) = true := beq_iff_eq.2 (by omega)
    clear h
    go_enter Tryz.func118, Tryz.ntmps118
    go_wp2
    go_ret2
    exact ⟨_, rfl, Below.refl _ _⟩
  have hz0 : ((O.length : Int) == 0) = false := beq_eq_false_iff_ne.2 (by omega)
  by_cases hl64 : 64 < O.length
  · have H : Hid (chkN O = 3) := by unfold Hid chkN; rw [if_neg hl0, if_pos hl64]
    rw [H.out]
    have hz64 : (64 : Int) < (O.length : Int) := by omega
    clear h hl0
    go_enter Tryz.func118, Tryz.ntmps118
    go_wp2
    go_ret2
    exact ⟨_, rfl, Below.refl _ _⟩
  have hz64 : ¬ (64 : Int) < (O.length : Int) := by omega
  have h64 : O.length ≤ 64 := by omega
  have HK : Hid (chkN O = match treeF O with | some _ => 0 | none => 17) := by unfold Hid chkN; rw [if_neg hl0, if_neg hl64]; cases treeF O <;> rfl
  have HR := Lib.hid h
  obtain ⟨c, hc⟩ : ∃ c, chkN O = c := ⟨_, rfl⟩
  have HCK := Lib.hid hc
  rw [hc]
  clear h hl0 hl64 hc
  go_enter Tryz.func118, Tryz.ntmps118
  go_wp2
  go_loopw [4, 19] (fun rv i wr => ∃ (k : Nat) (R : List Fm), i = .int .i64 k ∧ k ≤ O.length ∧ R.length ≤ k ∧ Hid (buildF (O.drop k) R = buildF O [] ∧ ∃ xs, wr.ownsRow w.heap.size 163 1 rv R.length xs ∧ AllIfS xs ∧ Below w.heap.size w wr)) (fun _ i _ => O.length - (intOf i).toNat)
  case atStart => exact ⟨0, [], by go_num, by omega, by simp, rfl, [], World.ownsRow_nil _ _ _ _, fun x hx => (by cases hx), Below.refl _ _⟩
  case round =>
    obtain ⟨k, R, rfl, hk, hnk, HALL⟩ := hrel
    by_cases hlt : k < O.length
    · obtain ⟨x, hx⟩ : ∃ x, O[k]? = some x := ⟨_, List.getElem?_eq_getElem hlt⟩
      obtain ⟨hP, xs, hO, hI, hB⟩ := HALL.out
      obtain ⟨g, off, c1, hg, hgl, a0, a1, a2, a3, a4, a5, a6, a7, a8⟩ := (HR.out.keep hB).at hx
      simp only [Value.slice.injEq, true_and] at hg
      obtain ⟨rfl, rfl⟩ := hg
      have hib : ImB (wr.alloc (.cells #[.int .i64 x.op, .string x.ln, .int .i64 x.lnum, .string x.rn, .int .i64 x.rnum, .string x.name, .string x.user, .int .i64 x.line, .int .i64 x.col] 103)) wr.heap.size x := heap_alloc_new wr _
      obtain ⟨p0, _, _, _, _, _, _, _, _⟩ := hib.facts
      have HC := Lib.hid (push_all (hO.alloc (.cells #[.int .i64 x.op, .string x.ln, .int .i64 x.lnum, .string x.rn, .int .i64 x.rnum, .string x.name, .string x.user, .int .i64 x.line, .int .i64 x.col] 103)) hI (by have := hB.size; simp; omega) (by omega) x (k : Int))
      have HB := Lib.hid (hB.alloc hB.size (.cells #[.int .i64 x.op, .string x.ln, .int .i64 x.lnum, .string x.rn, .int .i64 x.rnum, .string x.name, .string x.user, .int .i64 x.line, .int .i64 x.col] 103))
      have hkz : (k : Int) < (O.length : Int) := by omega
      obtain ⟨adv, capv, hvv⟩ := owns_len hO
      subst hvv
      cases hp : pushF x R with
      | none =>
        have HF : Hid (c = 17) := by unfold Hid; rw [← HCK.out, HK.out, treeF_none hx hP hp]
        have HC : Hid (Calls Tryz.prog 121 _ _ _) := Lib.hid (HC.out.mono (R' := fun e w' => e = .returned (.tuple #[.slice adv R.length capv, .bool false]) ∧ w' = _) (fun e w' hh => by unfold PushPost at hh; rw [hp] at hh; exact hh))
        clear hP hO hI hB hx hib HALL hp
        go_wp2_with fail
        refine HC.out.mono ?_
        rintro e w2 ⟨rfl, rfl⟩
        go_wp2
        refine bodyPost_ret (v := .tuple #[.nilIface, .int .i64 17]) (by simp [results, Tryz.results118, go_sem]) rfl ?_
        exact ⟨_, by rw [HF.out], HB.out⟩
      | some S =>
        have HN := Lib.hid (buildF_next hx hP hp)
        have hsl : S.length ≤ k + 1 := by have := pushF_len hp; omega
        have HC : Hid (Calls Tryz.prog 121 _ _ _) := Lib.hid (HC.out.mono (R' := PushedS w.heap.size S.length _) (fun e w' hh => by unfold PushPost at hh; rw [hp] at hh; exact hh))
        clear hP hO hI hB hx hib HALL hp
        go_wp2_with fail
        refine HC.out.mono ?_
        rintro e w2 ⟨v2, xs2, rfl, hO2, hI2, hB2⟩
        have HM := Lib.hid (And.intro hO2 (And.intro hI2 (HB.out.trans hB2)))
        clear hO2 hI2 hB2
        go_wp2
        go_roundw
        case rel => exact ⟨k + 1, S, by go_num, by omega, hsl, HN.out, xs2, HM.out.1, HM.out.2.1, HM.out.2.2⟩
        case measure => simp [intOf]; omega
    · have hkl : k = O.length := by omega
      subst hkl
      obtain ⟨hP, xs, hO, hI, hB⟩ := HALL.out
      have htr := treeF_end hP
      by_cases h1 : R.length = 1
      · obtain ⟨f, hf1⟩ := List.length_eq_one_iff.1 h1
        have HF : Hid (c = 0) := by unfold Hid; rw [← HCK.out, HK.out, htr, hf1]; rfl
        have hne : ((R.length : Int) != 1) = false := by rw [h1]; rfl
        have hz1 : (0 : Int) < (R.length : Int) := by omega
        obtain ⟨t0, u0, hx0⟩ := hI.at (n := 0) (by rw [hO.1]; omega)
        obtain ⟨g, cp, hv, hg, hgs⟩ := owns_shape hO (by omega)
        subst hv
        have c0 := (World.ownsRow.cellAt hO 0 (by omega)).trans hx0
        have HB := Lib.hid hB
        have c1 : wr.cell? ⟨g, 0, none⟩ = some (.iface t0 u0) := c0
        clear hP hO hI hB hx0 HALL htr h1 hf1
        go_wp2
        refine bodyPost_ret (v := .tuple #[.iface t0 u0, .int .i64 0]) (by simp [results, Tryz.results118, go_sem]) rfl ?_
        exact ⟨_, by rw [HF.out], HB.out⟩
      · have HF : Hid (c = 17) := by
          unfold Hid; rw [← HCK.out, HK.out, htr]
          match R, h1 with
          | [], _ => rfl
          | [f], h1 => exact absurd rfl h1
          | f :: g :: S, _ => rfl
        obtain ⟨adv, capv, hvv⟩ := owns_len hO
        subst hvv
        have hne : ((R.length : Int) != 1) = true := bne_iff_ne.2 (by omega)
        have HB := Lib.hid hB
        clear hP hO hI hB HALL htr h1
        go_wp2
        refine bodyPost_ret (v := .tuple #[.nilIface, .int .i64 17]) (by simp [results, Tryz.results118, go_sem]) rfl ?_
        exact ⟨_, by rw [HF.out], HB.out⟩

set_option maxRecDepth 100000 in
set_option maxHeartbeats 1000000 in
theorem check_all {w : World} {v : Value} {O : List It} (h : ItIn w v O) :
    Calls Tryz.prog 111 #[v] w fun e w' => e = .returned (.int .i64 (chkN O)) ∧ Below w.heap.size w w' := by
  have HC := Lib.hid (built_all h)
  obtain ⟨ad, cap, hv⟩ := h.len
  subst hv
  clear h
  go_enter Tryz.func111, Tryz.ntmps111
  go_wp2_with fail
  refine HC.out.mono ?_
  rintro e w2 ⟨nd, rfl, hb2⟩
  have HB := Lib.hid hb2
  clear hb2
  go_wp2
  go_ret
  exact ⟨rfl, HB.out⟩

end Go.Proofs.YtadjnfpomjopkaaGreat

namespace Go.Proofs.YtadjnfpomjopkaaGreat
open Go.RowKit

theorem info_itemE : (Tryz.prog.info? 103).map (fun i => (i.zero, i.size, i.bytes)) = some (some (.agg #[.int .i64 0, .string ⟨#[]⟩, .int .i64 0, .string ⟨#[]⟩, .int .i64 0, .string ⟨#[]⟩, .string ⟨#[]⟩, .int .i64 0, .int .i64 0]), 9, 104) := by kernel_rfl
theorem insRow {w : World} {v : Value} {l : List Ins} (h : RowE instE 7 w v l) {i : Nat} {x : Ins} (hi : l[i]? = some x) :
    ∃ b off cap, v = .slice (some ⟨b, off, none⟩) l.length cap ∧ b < w.heap.size ∧ w.cell? ⟨b, off + i * 7, none⟩ = some (.int .i64 x.op) ∧ w.cell? ⟨b, off + i * 7 + 1, none⟩ = some (.int .i64 x.l.1) ∧ w.cell? ⟨b, off + i * 7 + 2, none⟩ = some (.int .i64 x.l.2) ∧ w.cell? ⟨b, off + i * 7 + 3, none⟩ = some (.int .i64 x.r.1) ∧ w.cell? ⟨b, off + i * 7 + 4, none⟩ = some (.int .i64 x.r.2) ∧ w.cell? ⟨b, off + i * 7 + 5, none⟩ = some (.int .i64 x.n) ∧ w.cell? ⟨b, off + i * 7 + 6, none⟩ = some (.int .i64 x.user) := by
  obtain ⟨b, off, cap, cs, hv, hb, _, he, hc⟩ := h.at hi
  unfold instE at he
  subst he
  exact ⟨b, off, cap, hv, hb, hc 0 _ rfl, hc 1 _ rfl, hc 2 _ rfl, hc 3 _ rfl, hc 4 _ rfl, hc 5 _ rfl, hc 6 _ rfl⟩

set_option maxRecDepth 100000 in
set_option maxHeartbeats 2000000 in
theorem shape_any {w : World} {v : Value} {l : List Ins} (h : RowE instE 7 w v l) (hl : l.length ≤ 10000) :
    Calls Tryz.prog 112 #[v] w fun e w' => ∃ v', e = .returned v' ∧ ItRow w' v' (l.map itI) ∧ Below w.heap.size w w' := by
  obtain ⟨ad, cap, hv⟩ := h.len
  subst hv
  have HI := Lib.hid h
  obtain ⟨n, hn⟩ : ∃ n, l.length = n := ⟨_, rfl⟩
  have HN := Lib.hid hn
  rw [hn] at hl HI ⊢
  clear h hn
  go_enter Tryz.func112, Tryz.ntmps112
  go_wp2
  go_loopw [3, 8] (fun vo i wr => ∃ k : Nat, i = .int .i64 (k : Int) ∧ k ≤ n ∧ Hid (wr.ownsRow w.heap.size 103 9 vo k (itFlat ((l.take k).map itI)) ∧ Below w.heap.size w wr)) (fun _ i _ => n - (intOf i).toNat)
  case atStart => exact ⟨0, rfl, Nat.zero_le _, World.ownsRow_nil _ _ _ _, Below.refl _ _⟩
  case round =>
    obtain ⟨k, rfl, hk, HALL⟩ := hrel
    obtain ⟨hrow, hb⟩ := HALL.out
    obtain ⟨adO, capO, hvO⟩ := owns_len hrow
    subst hvO
    rcases Nat.lt_or_ge k n with hlt | hge
    · obtain ⟨x, hx⟩ : ∃ x, l[k]? = some x := ⟨_, List.getElem?_eq_getElem (by rw [HN.out]; exact hlt)⟩
      have hi : RowE instE 7 wr (.slice ad n cap) l := HI.out.below instE_keep hb
      obtain ⟨b, off, c, hvv, hbl, a0, a1, a2, a3, a4, a5, a6⟩ := insRow hi hx
      simp only [Value.slice.injEq] at hvv
      obtain ⟨rfl, -, rfl⟩ := hvv
      have hkz : (k : Int) < (n : Int) := by omega
      have HTK : Hid (itFlat ((l.take (k + 1)).map itI) = itFlat ((l.take k).map itI) ++ itCells (itI x)) := by
        unfold Hid
        rw [List.take_add_one, hx, List.map_append]
        exact itFlat_snoc _ _
      have HR := Lib.hid hrow
      have HB := Lib.hid hb
      obtain ⟨wo, hwo⟩ : ∃ w', wr = w' := ⟨_, rfl⟩
      obtain ⟨W1, hW1⟩ : ∃ W1, wr.alloc (.cells #[.int .i64 x.op, .int .i64 x.l.1, .int .i64 x.l.2, .int .i64 x.r.1, .int .i64 x.r.2, .int .i64 x.n, .int .i64 x.user] 37) = W1 := ⟨_, rfl⟩
      have hb1 : Below wr.heap.size wr W1 := by rw [← hW1]; exact (Below.refl _ wr).alloc (Nat.le_refl _) _
      have x1 : Blk W1 wr.heap.size #[.int .i64 x.op, .int .i64 x.l.1, .int .i64 x.l.2, .int .i64 x.r.1, .int .i64 x.r.2, .int .i64 x.n, .int .i64 x.user] 37 := by rw [← hW1]; exact Blk.new _ _ _
      have e0 := x1.cell (i := 0) rfl
      have HR1 : Hid (W1.ownsRow w.heap.size 103 9 (.slice adO k capO) k (itFlat ((l.take k).map itI))) := Lib.hid (owns_below hrow hb1)
      have HB1 := Lib.hid (hb.trans (hb1.mono hb.size))
      clear hrow hb hi hx HALL hwo hb1 x1 HR HB
      go_wp2_with (first
        | (at_builtin; refine app1 _ #[.int .i64 x.op, .string ⟨#[]⟩, .int .i64 0, .string ⟨#[]⟩, .int .i64 0, .string ⟨#[]⟩, .string ⟨#[]⟩, .int .i64 0, .int .i64 0] rfl _ _ 61 rfl w.heap.size 103 _ 9 104 Tryz.underlying61 info_itemE rfl (by decide) (by decide) _ _ _ rfl (by exact HR1.out) rfl (by simp) rfl (by simp [Value.oneCell']) (by omega) HB1.out.size ?_; intro v' w3 hown3 hgr3 hbel
           have HO3 := Lib.hid hown3; have HB3 := Lib.hid (HB1.out.trans (hbel.mono (Nat.le_refl _)))
           clear hown3 hgr3 hbel)
        | fail)
      go_roundw
      case rel => exact ⟨k + 1, by go_num, hlt, by have := HO3.out; rw [HTK.out]; exact this, HB3.out⟩
      case measure => simp [intOf]; omega
    · have hkn : k = n := by omega
      subst hkn
      have hge' : ¬ (k : Int) < (k : Int) := by omega
      have HR := Lib.hid hrow
      have HB := Lib.hid hb
      clear hrow hb HALL
      go_wp2
      go_ret
      refine ⟨_, rfl, ⟨w.heap.size, ?_⟩, HB.out⟩
      have := HR.out
      rw [List.take_of_length_le (by rw [HN.out]; exact Nat.le_refl _)] at this
      rw [List.length_map, HN.out]
      exact this
end Go.Proofs.YtadjnfpomjopkaaGreat
