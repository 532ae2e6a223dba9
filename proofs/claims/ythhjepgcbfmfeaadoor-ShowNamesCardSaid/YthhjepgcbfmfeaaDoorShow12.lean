/- Contracts of warderlaw06's great and awake, and of the laws ShowTexts and ShowNames. -/
import Derived.Test.YthhjepgcbfmfeaaDoorShow11
namespace Go.Proofs.YthhjepgcbfmfeaaDoor
open Go.RowKit

/-- the texts of an item are at most 60 bytes -/
def Low60 (x : It) : Prop := x.name.size ≤ 60 ∧ x.user.size ≤ 60 ∧ x.ln.size ≤ 60 ∧ x.rn.size ≤ 60

def GreatPost (O : List It) (w : World) (e : Ending) (w' : World) : Prop := ∃ b, e = .returned (.bool b) ∧ w' = w ∧ (b = false → O.length ≤ 81 ∧ ∀ x ∈ O, Low60 x)
set_option maxRecDepth 100000 in
set_option maxHeartbeats 4000000 in
theorem great_any {w : World} {v : Value} {O : List It} (h : ItIn w v O) :
    Calls Tryd.prog 5 #[v] w (GreatPost O w) := by
  obtain ⟨ad, cap, hv⟩ := h.len
  subst hv
  have HR := Lib.hid h
  clear h
  go_enter Tryd.func5, Tryd.ntmps5
  go_wp2
  go_loop [3] (fun i => ∃ (k : Nat), i = .int .i64 k ∧ k ≤ O.length ∧ k ≤ 81 ∧ Hid (∀ (j : Nat) (x : It), j < k → O[j]? = some x → Low60 x)) (fun i => O.length - (intOf i).toNat)
  case atStart => exact ⟨0, by go_num, by omega, by omega, fun j x hj => absurd hj (Nat.not_lt_zero j)⟩
  case round =>
    obtain ⟨k, rfl, hk, hk81, HALL⟩ := hrel
    by_cases hlt : k < O.length
    · have hkz : (k : Int) < (O.length : Int) := by omega
      by_cases h80 : (80 : Int) < (k : Int)
      · go_wp2
        go_ret
        exact ⟨true, rfl, rfl, fun h => absurd h (by decide)⟩
      obtain ⟨x, hx⟩ : ∃ x, O[k]? = some x := ⟨_, List.getElem?_eq_getElem hlt⟩
      obtain ⟨g, off, c1, hg, hgl, a0, a1, a2, a3, a4, a5, a6, a7, a8⟩ := HR.out.at hx
      simp only [Value.slice.injEq, true_and] at hg
      obtain ⟨rfl, rfl⟩ := hg
      clear hgl
      by_cases h1 : (60 : Int) < (x.name.size : Int)
      · clear hx
        go_wp2
        go_ret
        exact ⟨true, rfl, rfl, fun h => absurd h (by decide)⟩
      by_cases h2 : (60 : Int) < (x.user.size : Int)
      · clear hx
        go_wp2
        go_ret
        exact ⟨true, rfl, rfl, fun h => absurd h (by decide)⟩
      by_cases h3 : (60 : Int) < (x.ln.size : Int)
      · clear hx
        go_wp2
        go_ret
        exact ⟨true, rfl, rfl, fun h => absurd h (by decide)⟩
      by_cases h4 : (60 : Int) < (x.rn.size : Int)
      · clear hx
        go_wp2
        go_ret
        exact ⟨true, rfl, rfl, fun h => absurd h (by decide)⟩
      have HN : Hid (∀ (j : Nat) (y : It), j < k + 1 → O[j]? = some y → Low60 y) := by
        intro j y hj hy
        by_cases hjk : j < k
        · exact HALL.out j y hjk hy
        · obtain rfl : j = k := by omega
          rw [hx] at hy
          cases hy
          exact ⟨by omega, by omega, by omega, by omega⟩
      clear hx HALL
      go_wp2
      go_round
      case rel => exact ⟨k + 1, by go_num, by omega, by omega, HN.out⟩
      case measure => simp [intOf]; omega
    · have hkl : k = O.length := by omega
      have HF : Hid (O.length ≤ 81 ∧ ∀ x ∈ O, Low60 x) := by
        refine ⟨by omega, fun x hx => ?_⟩
        obtain ⟨j, hj, he⟩ := List.getElem_of_mem hx
        exact HALL.out j x (by omega) (by rw [List.getElem?_eq_getElem hj, he])
      subst hkl
      clear HALL
      go_wp2
      go_ret
      exact ⟨false, rfl, rfl, fun _ => HF.out⟩

def awO : List It := [⟨3, ⟨#[97]⟩, 0, ⟨#[]⟩, 3, ⟨#[]⟩, ⟨#[]⟩, 0, 0⟩, ⟨15, ⟨#[]⟩, 0, ⟨#[]⟩, 0, ⟨#[]⟩, ⟨#[]⟩, 0, 0⟩, ⟨9, ⟨#[]⟩, 0, ⟨#[]⟩, 0, ⟨#[115]⟩, ⟨#[]⟩, 0, 0⟩, ⟨16, ⟨#[]⟩, 0, ⟨#[]⟩, 0, ⟨#[]⟩, ⟨#[]⟩, 0, 0⟩]
theorem awO_text : formR awO = (⟨#[110, 111, 116, 32, 97, 32, 60, 32, 51, 32, 97, 110, 100, 32, 111, 112, 101, 110, 32, 115]⟩, 0) := by decide +kernel
theorem awO_short : ∀ x ∈ awO, Short x := by
  intro x hx
  simp only [awO, List.mem_cons, List.not_mem_nil, or_false] at hx
  rcases hx with rfl | rfl | rfl | rfl <;> exact ⟨by decide, by decide, by decide, by decide, by decide, by decide⟩
def awCells : Array Value := (awO.flatMap itCells).toArray
theorem awO_in (w : World) : ItIn (w.alloc (.cells awCells 36)) (.slice (some ⟨w.heap.size, 0, none⟩) 4 4) awO := by
  refine ⟨_, _, rfl, .inr ⟨_, _, rfl, by simp, fun k x hx j hj => ?_⟩⟩
  rw [World.cell?_alloc_at _ _ _ _ rfl]
  have hk := (List.getElem?_eq_some_iff.1 hx).1
  show awCells[0 + k * 9 + j]? = _
  rw [Nat.zero_add, show awCells[k * 9 + j]? = (awO.flatMap itCells)[k * 9 + j]? by simp [awCells]]
  exact itFlat_get awO k j x hx hj

set_option maxRecDepth 100000 in
set_option maxHeartbeats 4000000 in
theorem awake06 {w : World} (ht : Tabs w) :
    Calls Tryd.prog 6 #[] w fun e w' => e = .returned (.bool true) ∧ Below w.heap.size w w' := by
  have hb0 : Below w.heap.size w (w.alloc (.cells awCells 36)) := (Below.refl _ w).alloc (Nat.le_refl _) _
  have HB0 := Lib.hid hb0
  have HF := Lib.hid (formula_any (ht.keep hb0) (awO_in w) awO_short)
  rw [awO_text] at HF
  unfold awCells at HF HB0
  simp only [awO, itCells, List.flatMap_cons, List.flatMap_nil, List.cons_append, List.nil_append, List.append_nil] at HF HB0
  clear ht hb0
  go_enter Tryd.func6, Tryd.ntmps6
  go_wp2_with fail
  refine HF.out.mono ?_
  rintro e w1 ⟨rfl, hb1⟩
  have HB1 := Lib.hid (HB0.out.trans (hb1.mono HB0.out.size))
  clear hb1
  go_wp2
  go_ret
  exact ⟨rfl, HB1.out⟩

set_option maxRecDepth 100000 in
set_option maxHeartbeats 4000000 in
theorem lawTexts_any {w : World} (ht : Tabs w) {v : Value} {O : List It} (h : ItIn w v O) (hn : ∀ y ∈ O, ItNum y) :
    Calls Tryd.prog 3 #[v] w fun e w' => e = .returned (.bool true) ∧ Below w.heap.size w w' := by
  obtain ⟨ad, cap, hv⟩ := h.len
  subst hv
  have HG := Lib.hid (great_any h)
  have HAW := Lib.hid (fun (W : World) (hW : Tabs W) => awake06 hW)
  have HT := Lib.hid ht
  have HI := Lib.hid h
  have HN := Lib.hid hn
  clear ht h hn
  go_enter Tryd.func3, Tryd.ntmps3
  go_wp2_with fail
  refine HG.out.mono ?_
  rintro e w1 ⟨b, rfl, hw, hsm⟩
  rw [hw]; clear hw
  cases b
  · obtain ⟨_, hlow⟩ := hsm rfl
    have hs : ∀ x ∈ O, Short x := fun x hx => by
      obtain ⟨l1, l2, l3, l4⟩ := hlow x hx
      obtain ⟨_, n2, n3⟩ := HN.out x hx
      exact ⟨l3, l4, l1, l2, n2, n3⟩
    have HF := Lib.hid (formula_any HT.out HI.out hs)
    have HS := Lib.hid hs
    have HRF := Lib.hid (fun (W : World) (hW : ItIn W (.slice ad O.length cap) O) => rformula_any hW HS.out)
    obtain ⟨tx, htx⟩ : ∃ t, (formR O).1 = t := ⟨_, rfl⟩
    obtain ⟨er, her⟩ : ∃ t, (formR O).2 = t := ⟨_, rfl⟩
    rw [htx, her] at HF HRF
    clear htx her hs hsm hlow
    have hbt : (tx.toList == tx.toList) = true := beq_self_eq_true _
    have hbe : (er == er) = true := beq_self_eq_true _
    go_wp2_with fail
    refine HF.out.mono ?_
    rintro e w2 ⟨rfl, hb2⟩
    have HI2 := Lib.hid (HI.out.keep hb2)
    have HB2 := Lib.hid hb2
    have HT2 := Lib.hid (HT.out.keep hb2)
    clear hb2
    go_wp2_with fail
    refine (HRF.out _ HI2.out).mono ?_
    rintro e w3 ⟨rfl, hb3⟩
    have HB3 := Lib.hid (HB2.out.trans (hb3.mono HB2.out.size))
    have HT3 := Lib.hid (HT2.out.keep hb3)
    clear hb3
    go_wp2_with fail
    refine (HAW.out _ HT3.out).mono ?_
    rintro e w4 ⟨rfl, hb4⟩
    have HB4 := Lib.hid (HB3.out.trans (hb4.mono HB3.out.size))
    clear hb4
    go_wp2
    go_ret
    exact ⟨rfl, HB4.out⟩
  · clear hsm
    go_wp2_with fail
    refine (HAW.out _ HT.out).mono ?_
    rintro e w2 ⟨rfl, hb2⟩
    have HB2 := Lib.hid hb2
    clear hb2
    go_wp2
    go_ret
    exact ⟨rfl, HB2.out⟩

set_option maxRecDepth 100000 in
set_option maxHeartbeats 4000000 in
theorem lawNames_any {w : World} (ht : Tabs w) (s : ByteArray) (op : Int) (hs : s.size ≤ 140737488351232) :
    Calls Tryd.prog 4 #[.string s, .int .i64 op] w fun e w' => e = .returned (.bool true) ∧ Below w.heap.size w w' := by
  have HT := Lib.hid ht
  have HN := Lib.hid (fun (W : World) (hW : Tabs W) => name_yes s W hW.mx hs)
  have HRN := Lib.hid (fun (W : World) => rname_any s W)
  have HS := Lib.hid (fun (W : World) (hW : Tabs W) => sign_any hW op)
  have HRS := Lib.hid (fun (W : World) => rsign_any W op)
  have HAW := Lib.hid (fun (W : World) (hW : Tabs W) => awake06 hW)
  obtain ⟨b, hb⟩ : ∃ b, nameOK s = b := ⟨_, rfl⟩
  obtain ⟨sg, hsg⟩ : ∃ b, signB op = b := ⟨_, rfl⟩
  rw [hb] at HN HRN
  rw [hsg] at HS HRS
  have hbt : (sg.toList == sg.toList) = true := beq_self_eq_true _
  have hbb : (b == b) = true := beq_self_eq_true _
  clear ht hs hb hsg
  go_enter Tryd.func4, Tryd.ntmps4
  go_wp2_with fail
  refine (HN.out _ HT.out).mono ?_
  rintro e w1 ⟨rfl, hb1⟩
  have HB1 := Lib.hid hb1
  have HT1 := Lib.hid (HT.out.keep hb1)
  clear hb1
  go_wp2_with fail
  refine (HRN.out _).mono ?_
  rintro e w2 ⟨rfl, hb2⟩
  have HB2 := Lib.hid (HB1.out.trans (hb2.mono HB1.out.size))
  have HT2 := Lib.hid (HT1.out.keep hb2)
  clear hb2
  go_wp2_with fail
  refine (HS.out _ HT2.out).mono ?_
  rintro e w3 ⟨rfl, hb3⟩
  have HB3 := Lib.hid (HB2.out.trans (hb3.mono HB2.out.size))
  have HT3 := Lib.hid (HT2.out.keep hb3)
  clear hb3
  go_wp2_with fail
  refine (HRS.out _).mono ?_
  rintro e w4 ⟨rfl, hb4⟩
  have HB4 := Lib.hid (HB3.out.trans (hb4.mono HB3.out.size))
  have HT4 := Lib.hid (HT3.out.keep hb4)
  clear hb4
  go_wp2_with fail
  refine (HAW.out _ HT4.out).mono ?_
  rintro e w5 ⟨rfl, hb5⟩
  have HB5 := Lib.hid (HB4.out.trans (hb5.mono HB4.out.size))
  clear hb5
  go_wp2
  go_ret
  exact ⟨rfl, HB5.out⟩

end Go.Proofs.YthhjepgcbfmfeaaDoor
