/- Contracts of warderref06's tight, side and named, and of warderref04's Kids. -/
import Derived.Test.YthhjepgcbfmfeaaDoorShow7
import Derived.Test.YthhjepgcbfmfeaaDoorShow2p
import Derived.Test.YthhjepgcbfmfeaaDoorShow3r
namespace Go.Proofs.YthhjepgcbfmfeaaDoor
open Go.RowKit

set_option maxRecDepth 100000 in
set_option maxHeartbeats 1000000 in
theorem rtight_any (w : World) (op : Int) :
    Calls Tryd.prog 31 #[.int .i64 op] w fun e w' => e = .returned (.int .i64 (tightN op)) ∧ w' = w := by
  rcases (show op = 18 ∨ op = 17 ∨ op = 16 ∨ (op ≠ 18 ∧ op ≠ 17 ∧ op ≠ 16) by omega) with rfl | rfl | rfl | ⟨h1, h2, h3⟩
  · go_enter Tryd.func31, Tryd.ntmps31
    go_wp2
    go_ret
    exact ⟨rfl, rfl⟩
  · go_enter Tryd.func31, Tryd.ntmps31
    go_wp2
    go_ret
    exact ⟨rfl, rfl⟩
  · go_enter Tryd.func31, Tryd.ntmps31
    go_wp2
    go_ret
    exact ⟨rfl, rfl⟩
  · have H : Hid (tightN op = 4) := by unfold Hid tightN; rw [if_neg h1, if_neg h2, if_neg h3]
    rw [H.out]
    have b1 : (op == 18) = false := beq_eq_false_iff_ne.2 h1
    have b2 : (op == 17) = false := beq_eq_false_iff_ne.2 h2
    have b3 : (op == 16) = false := beq_eq_false_iff_ne.2 h3
    clear h1 h2 h3 H
    go_enter Tryd.func31, Tryd.ntmps31
    go_wp2
    go_ret
    exact ⟨rfl, rfl⟩

/-- text answers for the part that ends at e -/
def TextOK (O : List It) (v : Value) (f : Fm) (e : Nat) : Prop := ∀ W : World, ItIn W v O → Calls Tryd.prog 17 #[v, .int .i64 e] W fun en w' => en = .returned (.string (textF f)) ∧ Below W.heap.size W w'
def SideOK (O : List It) (v : Value) (f : Fm) (e : Nat) (least : Int) : Prop := ∀ W : World, ItIn W v O → Calls Tryd.prog 30 #[v, .int .i64 e, .int .i64 least] W fun en w' => en = .returned (.string (inF (tightN f.op) least (textF f))) ∧ Below W.heap.size W w'

set_option maxRecDepth 100000 in
set_option maxHeartbeats 1000000 in
theorem rside_any {O : List It} {v : Value} {f : Fm} {e : Nat} (hT : TextOK O v f e) {x : It} (hx : O[e]? = some x) (hop : x.op = f.op) (hsz : (textF f).size ≤ 100000) (least : Int) : SideOK O v f e least := by
  intro W hW
  obtain ⟨g, off, cap, hv, hgl, a0, _, _, _, _, _, _, _, _⟩ := hW.at hx
  subst hv
  have hlt := (List.getElem?_eq_some_iff.1 hx).1
  have HT := Lib.hid (hT W hW)
  have HA := Lib.hid (fun (W : World) => rtight_any W x.op)
  have HW := Lib.hid hW
  obtain ⟨tx, htx⟩ : ∃ t, textF f = t := ⟨_, rfl⟩
  obtain ⟨tg, htg⟩ : ∃ t, tightN x.op = t := ⟨_, rfl⟩
  rw [hop] at htg
  have htg2 := htg
  rw [← hop] at htg2
  rw [htx] at HT hsz
  rw [htg2] at HA
  rw [htx, htg]
  have hez : (e : Int) < (O.length : Int) := by omega
  have he0 : (0 : Int) ≤ (e : Int) := by omega
  have hz1 : ¬ 9223372036854775807 < 1 + tx.size := by omega
  have hz2 : ¬ 9223372036854775807 < 1 + tx.size + 1 := by omega
  clear hT hop htx htg htg2 hW hlt
  by_cases hlt : tg < least
  · have HI := Lib.hid (inF_yes (s := tx) hlt)
    have hd : decide (tg < least) = true := decide_eq_true hlt
    rw [HI.out]
    clear hlt
    go_enter Tryd.func30, Tryd.ntmps30
    go_wp2_with fail
    refine HT.out.mono ?_
    rintro e w2 ⟨rfl, hb2⟩
    have HB2 := Lib.hid hb2
    obtain ⟨_, _, _, hv2, _, c0, _⟩ := (HW.out.keep hb2).at hx
    simp only [Value.slice.injEq, true_and, Option.some.injEq, Addr.mk.injEq, and_true] at hv2
    obtain ⟨⟨rfl, rfl⟩, rfl⟩ := hv2
    clear hb2 hx
    go_wp2_with fail
    refine (HA.out _).mono ?_
    rintro e w3 ⟨rfl, hw⟩
    rw [hw]
    clear hw
    go_wp2
    go_ret
    exact ⟨rfl, HB2.out⟩
  · have HI := Lib.hid (inF_no (s := tx) hlt)
    have hd : decide (tg < least) = false := decide_eq_false hlt
    rw [HI.out]
    clear hlt
    go_enter Tryd.func30, Tryd.ntmps30
    go_wp2_with fail
    refine HT.out.mono ?_
    rintro e w2 ⟨rfl, hb2⟩
    have HB2 := Lib.hid hb2
    obtain ⟨_, _, _, hv2, _, c0, _⟩ := (HW.out.keep hb2).at hx
    simp only [Value.slice.injEq, true_and, Option.some.injEq, Addr.mk.injEq, and_true] at hv2
    obtain ⟨⟨rfl, rfl⟩, rfl⟩ := hv2
    clear hb2 hx
    go_wp2_with fail
    refine (HA.out _).mono ?_
    rintro e w3 ⟨rfl, hw⟩
    rw [hw]
    clear hw
    go_wp2
    go_ret
    exact ⟨rfl, HB2.out⟩

/-! Kids -/
set_option maxRecDepth 100000 in
set_option maxHeartbeats 1000000 in
theorem kids_0 {w : World} {v : Value} {O : List It} (h : ItIn w v O) {e : Nat} {x : It} (hx : O[e]? = some x) (hop : arN x.op = 0) :
    Calls Tryd.prog 29 #[v, .int .i64 e] w fun en w' => en = .returned (.slice none 0 0) ∧ w' = w := by
  obtain ⟨g, off, cap, hv, hgl, a0, _, _, _, _, _, _, _, _⟩ := h.at hx
  subst hv
  have hlt := (List.getElem?_eq_some_iff.1 hx).1
  have HA := Lib.hid (rarity_any w x.op)
  rw [hop] at HA
  have hez : (e : Int) < (O.length : Int) := by omega
  have he0 : (0 : Int) ≤ (e : Int) := by omega
  clear h hx hop hlt
  go_enter Tryd.func29, Tryd.ntmps29
  go_wp2_with fail
  refine HA.out.mono ?_
  rintro e w3 ⟨rfl, rfl⟩
  go_wp2
  go_ret
  exact ⟨rfl, rfl⟩
set_option maxRecDepth 100000 in
set_option maxHeartbeats 1000000 in
theorem kids_1 {w : World} {v : Value} {O : List It} (h : ItIn w v O) {e : Nat} {x : It} (hx : O[e + 1]? = some x) (hop : arN x.op = 1) (hl : O.length ≤ 1000) :
    Calls Tryd.prog 29 #[v, .int .i64 ((e : Int) + 1)] w fun en w' => en = .returned (.slice (some ⟨w.heap.size, 0, none⟩) 1 1) ∧ w' = w.alloc (.cells #[.int .i64 e] 3) := by
  obtain ⟨g, off, cap, hv, hgl, a0, _, _, _, _, _, _, _, _⟩ := h.at hx
  subst hv
  have hlt := (List.getElem?_eq_some_iff.1 hx).1
  have HA := Lib.hid (rarity_any w x.op)
  rw [hop] at HA
  have hez : (e : Int) + 1 < (O.length : Int) := by omega
  have he0 : (0 : Int) ≤ (e : Int) + 1 := by omega
  have ht1 : ((e : Int) + 1).toNat = e + 1 := by omega
  have hw3 : wrap64 (e : Int) = e := by unfold wrap64; omega
  have hw4 : IntKind.i64.wrap (e : Int) = e := IntWalk.i64_in _ ⟨by omega, by omega⟩
  have hw1 : IntKind.i64.wrap ((e : Int) + 1 - 1) = e := by rw [show (e : Int) + 1 - 1 = e by omega]; exact IntWalk.i64_in _ ⟨by omega, by omega⟩
  clear h hx hop hlt hl
  go_enter Tryd.func29, Tryd.ntmps29
  go_wp2_with fail
  refine HA.out.mono ?_
  rintro e w3 ⟨rfl, rfl⟩
  go_wp2
  go_ret
  exact ⟨rfl, rfl⟩
end Go.Proofs.YthhjepgcbfmfeaaDoor
