/- The law WriteTrue: plain facts. Chapter 25's example. A zone that came in, opened. The law PutPuts. The law PutTrue: how things lie. The law PutTrue: plain facts. -/
import Derived.Test.YtkkoooagamadjaaDoorWu26
import Derived.Test.YtkkoooagamadjaaDoorWu11
import Derived.Deep.Slices
import Derived.ChangeArms
import Derived.OpenShut
import Derived.Test.YtkkoooagamadjaaDoorWu18
import Derived.Test.YtkkoooagamadjaaDoorWu22
import Derived.Test.YtkkoooagamadjaaDoorWu20

namespace Go.Proofs.YtkkoooagamadjaaDoor
open Go.RowKit

theorem gapsZ_bd (c : Int) (hc : 0 ≤ c) : ∀ (l : List Int), ∀ g ∈ gapsZ c l, 0 ≤ g ∧ g ≤ c
  | [], g, h => by simp [gapsZ] at h
  | [_], g, h => by simp [gapsZ] at h
  | x :: y :: l, g, h => by
    rcases List.mem_cons.1 h with rfl | h
    · unfold gapZ; omega
    · exact gapsZ_bd c hc (y :: l) g h
theorem constZ_bd (C : List Int) (x : Int) : ∀ n, -1 ≤ constZ C x n ∧ constZ C x n < (n : Int) + 1
  | 0 => by simp [constZ]
  | k + 1 => by
    rw [constZ]
    have := constZ_bd C x k
    split <;> omega
theorem ofZ_I64 (vals consts : List Int) (r : Int) (hc : consts.length ≤ 1000) : I64 (ofZ vals consts r) := by
  have hk := kap_le r
  refine ⟨fun c h => ?_, fun g h => ?_⟩
  · unfold ofZ zoneZ at h
    obtain ⟨x, _, rfl⟩ := List.mem_map.1 h
    unfold clsZ
    have h1 := attrZ_bd (pZ vals x) vals.length
    have h2 := constZ_bd (sortS consts) x (sortS consts).length
    have h3 := sortS_len consts
    dsimp only
    omega
  · unfold ofZ zoneZ at h
    have := gapsZ_bd (kap r : Int) (by omega) _ g h
    omega

theorem nodup_sub_len {α : Type} [DecidableEq α] : ∀ (S L : List α), S.Nodup → (∀ z ∈ S, z ∈ L) → S.length ≤ L.length
  | [], _, _, _ => by simp
  | z :: S, L, hn, h => by
    obtain ⟨h1, h2⟩ := List.nodup_cons.1 hn
    have hz := h z (by simp)
    have := nodup_sub_len S (L.erase z) h2 (fun y hy => (List.mem_erase_of_ne (by rintro rfl; exact h1 hy)).2 (h y (List.mem_cons_of_mem _ hy)))
    rw [List.length_erase_of_mem hz] at this
    have hp : 0 < L.length := List.length_pos_of_mem hz
    simp only [List.length_cons]; omega
theorem win_len (L : List Zn) (f : Int → Zn) (lo : Int) (n : Nat) (hL : L.Nodup) (h : ∀ z ∈ L, ∃ x, lo ≤ x ∧ x < lo + n ∧ f x = z) : L.length ≤ n := by
  have := nodup_sub_len L ((List.range n).map fun i : Nat => f (lo + i)) hL (fun z hz => by
    obtain ⟨x, h1, h2, rfl⟩ := h z hz
    refine List.mem_map.2 ⟨(x - lo).toNat, List.mem_range.2 (by omega), ?_⟩
    rw [show lo + (((x - lo).toNat : Nat) : Int) = x by omega])
  simpa using this
theorem flat_len (f : Zn → List Zn) (c : Nat) : ∀ (l : List Zn), (∀ z ∈ l, (f z).length ≤ c) → (l.flatMap f).length ≤ l.length * c
  | [], _ => by simp
  | z :: l, h => by
    have h1 := h z (by simp)
    have h2 := flat_len f c l (fun y hy => h y (List.mem_cons_of_mem _ hy))
    simp only [List.flatMap_cons, List.length_append, List.length_cons, Nat.add_mul, Nat.one_mul]
    omega

theorem kap_w3 (r : Int) (h2 : 2 ≤ r) (h3 : r ≤ 3) : kap (r - 1) ≤ 3 ∧ kap (r - 2) ≤ 1 ∧ kap r ≤ 7 := by
  rcases (show r = 2 ∨ r = 3 by omega) with rfl | rfl <;> decide

theorem oth_in (v consts : List Int) (c : Nat) (l h : Int) (H : ∀ x ∈ consts ++ v, l ≤ x ∧ x ≤ h) : ∀ x ∈ othZ v consts c, l ≤ x ∧ x ≤ h := by
  intro x hx
  rcases (mem_oth _ _ _ _).1 hx with h1 | ⟨k, h1, _, rfl⟩
  · exact H x (List.mem_append_left _ h1)
  · refine H _ (List.mem_append_right _ ?_)
    rw [List.getD_eq_getElem?_getD, List.getElem?_eq_getElem h1]
    exact List.getElem_mem _
theorem ofZ_small (vals consts : List Int) (r : Int) (hv : vals.length ≤ 4) (hc : consts.length ≤ 3) : (ofZ vals consts r).1.length ≤ 60 ∧ (ofZ vals consts r).2.length ≤ 60 := by
  have := ofZ_len vals consts r; omega

/-- the first write -/
theorem first_write (vals consts : List Int) (a : Nat) (r : Int) (hv : vals.length ≤ 4) (ha : a < vals.length) (h2 : 2 ≤ r) (h3 : r ≤ 3) (hb : ∀ x ∈ consts ++ vals, -12 ≤ x ∧ x ≤ 12) :
    (wrOne a r (ofZ vals consts r)).length ≤ 33 ∧ ∀ z ∈ wrOne a r (ofZ vals consts r), ∃ x, -16 ≤ x ∧ x ≤ 16 ∧ z = ofZ (vals.set a x) consts (r - 1) := by
  have hk := kap_w3 r h2 h3
  rw [wrOne_of vals consts a r (by omega)]
  have hcm := true_comes vals consts a r (-12) 12 (by omega) ha (by omega) (by omega) (by omega) (oth_in vals consts a _ _ hb)
  refine ⟨win_len _ (fun x => allX vals consts a r x) (-16) 33 (true_once vals consts a r (by omega) ha (by omega)) (fun z hz => ?_), fun z hz => ?_⟩
  · obtain ⟨x, q1, q2, e⟩ := hcm z hz
    exact ⟨x, by omega, by omega, e⟩
  · obtain ⟨x, q1, q2, e⟩ := hcm z hz
    exact ⟨x, by omega, by omega, by rw [← e, allX_of]⟩
/-- the second one -/
theorem second_write (vals consts : List Int) (a b : Nat) (r x : Int) (hv : vals.length ≤ 4) (hbv : b < vals.length) (h2 : 2 ≤ r) (h3 : r ≤ 3) (hb : ∀ x ∈ consts ++ vals, -12 ≤ x ∧ x ≤ 12) (hx : -16 ≤ x ∧ x ≤ 16) :
    (wrOne b (r - 1) (ofZ (vals.set a x) consts (r - 1))).length ≤ 37 ∧ ∀ z ∈ wrOne b (r - 1) (ofZ (vals.set a x) consts (r - 1)), ∃ y, z = ofZ ((vals.set a x).set b y) consts (r - 2) := by
  have hk := kap_w3 r h2 h3
  have hl : (vals.set a x).length = vals.length := List.length_set ..
  have hbs : ∀ w ∈ consts ++ vals.set a x, -16 ≤ w ∧ w ≤ 16 := fun w hw => by
    rcases List.mem_append.1 hw with h | h
    · have := hb w (List.mem_append_left _ h); omega
    · rcases List.mem_or_eq_of_mem_set h with h | rfl
      · have := hb w (List.mem_append_right _ h); omega
      · exact hx
  rw [wrOne_of (vals.set a x) consts b (r - 1) (by omega)]
  have hcm := true_comes (vals.set a x) consts b (r - 1) (-16) 16 (by omega) (by omega) (by omega) (by omega) (by omega) (oth_in _ consts b _ _ hbs)
  rw [show r - 1 - 1 = r - 2 by omega] at hcm
  refine ⟨win_len _ (fun y => allX (vals.set a x) consts b (r - 1) y) (-18) 37 (true_once _ consts b (r - 1) (by omega) (by omega) (by omega)) (fun z hz => ?_), fun z hz => ?_⟩
  · obtain ⟨y, q1, q2, e⟩ := hcm z hz
    exact ⟨y, by omega, by omega, e⟩
  · obtain ⟨y, q1, q2, e⟩ := hcm z hz
    exact ⟨y, by rw [← e, allX_of, show r - 1 - 1 = r - 2 by omega]⟩
theorem true_ok (vals consts : List Int) (a b : Nat) (r : Int) (hv : vals.length ≤ 4) (hc : consts.length ≤ 3) (ha : a < vals.length) (hbv : b < vals.length) (h2 : 2 ≤ r) (h3 : r ≤ 3) (hb : ∀ x ∈ consts ++ vals, -12 ≤ x ∧ x ≤ 12) : WrOK r [(a : Int), (b : Int)] [ofZ vals consts r] := by
  obtain ⟨f1, f2⟩ := first_write vals consts a r hv ha h2 h3 hb
  have e1 : [ofZ vals consts r].flatMap (wrOne a r) = wrOne a r (ofZ vals consts r) := by simp
  have hsm : ∀ (v : List Int) (q : Int), v.length = vals.length → SmallZ (ofZ v consts q) ∧ I64 (ofZ v consts q) := fun v q h => by
    have := ofZ_len v consts q
    exact ⟨⟨by omega, by omega⟩, ofZ_I64 v consts q (by omega)⟩
  have hw : ∀ z ∈ wrStep a r [ofZ vals consts r], ∃ x, -16 ≤ x ∧ x ≤ 16 ∧ z = ofZ (vals.set a x) consts (r - 1) := fun z hz => by
    unfold wrStep at hz
    rw [uniqL_mem, e1] at hz
    exact f2 z hz
  have hwl : (wrStep a r [ofZ vals consts r]).length ≤ 33 := by
    unfold wrStep
    rw [e1]
    exact Nat.le_trans (uniqL_len _) f1
  refine ⟨by omega, by simp, ?_, by rw [e1]; omega, ?_, by omega, by omega, ?_, ?_, ?_, trivial⟩
  · intro z hz
    rw [List.mem_singleton] at hz
    subst hz
    exact ofZ_small vals consts r hv hc
  · intro y hy
    rw [e1] at hy
    obtain ⟨x, _, _, rfl⟩ := f2 y hy
    exact hsm _ _ (List.length_set ..)
  · intro z hz
    obtain ⟨x, _, _, rfl⟩ := hw z hz
    exact ofZ_small _ consts _ (by rw [List.length_set]; exact hv) hc
  · have := flat_len (wrOne b (r - 1)) 37 (wrStep a r [ofZ vals consts r]) (fun z hz => by
      obtain ⟨x, h1, h4, rfl⟩ := hw z hz
      exact (second_write vals consts a b r x hv hbv h2 h3 hb ⟨h1, h4⟩).1)
    omega
  · intro y hy
    obtain ⟨z, hz, hy⟩ := List.mem_flatMap.1 hy
    obtain ⟨x, h1, h4, rfl⟩ := hw z hz
    obtain ⟨y', rfl⟩ := (second_write vals consts a b r x hv hbv h2 h3 hb ⟨h1, h4⟩).2 y hy
    exact hsm _ _ (by rw [List.length_set, List.length_set])
theorem write_len (vals consts : List Int) (a b : Nat) (r : Int) (hok : WrOK r [(a : Int), (b : Int)] [ofZ vals consts r]) : (writeL r [(a : Int), (b : Int)] [ofZ vals consts r]).length ≤ 10000 := by
  obtain ⟨_, _, _, _, _, _, _, _, h, _⟩ := hok
  exact Nat.le_trans (uniqL_len _) h

end Go.Proofs.YtkkoooagamadjaaDoor

namespace Go.Proofs.YtkkoooagamadjaaDoor
open Go.RowKit Go.Shelf

def exZ : Zn := ([(3, -1)], [])
def exL : List Zn := [([(1, -1), (2, -1)], [0]), ([(3, -1)], []), ([(2, -1), (1, -1)], [0])]
theorem ex_flat : [exZ].flatMap (wrOne 0 1) = exL := by decide +kernel
theorem ex_write : writeL 1 [0] [exZ] = exL := by decide +kernel
theorem ex_ok : WrOK 1 [0] [exZ] := by
  refine ⟨by decide, by decide, ?_, ?_, ?_, trivial⟩
  · intro z hz
    rw [List.mem_singleton] at hz
    subst hz
    exact ⟨by decide, by decide⟩
  · rw [ex_flat]; decide
  · rw [ex_flat]
    intro y hy
    simp only [exL, List.mem_cons, List.not_mem_nil, or_false] at hy
    rcases hy with rfl | rfl | rfl
    all_goals
      refine ⟨⟨by decide, by decide⟩, ?_, ?_⟩
      · intro c hc
        simp only [List.mem_cons, List.not_mem_nil, or_false] at hc
        first
        | (rcases hc with rfl | rfl <;> exact ⟨⟨by decide, by decide⟩, ⟨by decide, by decide⟩⟩)
        | (subst hc; exact ⟨⟨by decide, by decide⟩, ⟨by decide, by decide⟩⟩)
      · intro g hg
        first
        | (cases hg; done)
        | (rw [List.mem_singleton] at hg; subst hg; exact ⟨by decide, by decide⟩)

theorem ZoneIn.cls {W : World} {c1 c2 : Value} {cl : List (Int × Int)} {gl : List Int} (h : ZoneIn W c1 c2 cl gl) {k : Nat} {x y : Int} (hk : cl[k]? = some (x, y)) :
    ∃ g off cap, c1 = .slice (some ⟨g, off, none⟩) cl.length cap ∧ W.cell? ⟨g, off + k * 2, none⟩ = some (.int .i64 x) := by
  obtain ⟨ad, cap, e⟩ := h.1.len
  have hr := h.1
  rw [e] at hr
  have hkl := (List.getElem?_eq_some_iff.1 hk).1
  obtain ⟨g, off, rfl, _, hc⟩ := hr.at (by omega)
  exact ⟨g, off, cap, e, hc _ _ (cellsP_get _ _ _ hk).1⟩

set_option maxRecDepth 100000 in
set_option maxHeartbeats 1000000 in
theorem awake25 {w : World} (ht : PTab w) : Calls Tryd.prog 6 #[] w fun e w' => e = .returned (.bool true) ∧ Below w.heap.size w w' := by
  obtain ⟨W1, hW1⟩ : ∃ W1, w.alloc (.cells #[.int .i64 3, .int .i64 (-1)] 42) = W1 := ⟨_, rfl⟩
  have hb1 : Below w.heap.size w W1 := by rw [← hW1]; exact (Below.refl _ _).alloc (Nat.le_refl _) _
  obtain ⟨W2, hW2⟩ : ∃ W2, W1.alloc (.cells #[.int .i64 0] 3) = W2 := ⟨_, rfl⟩
  have hb12 : Below W1.heap.size W1 W2 := by rw [← hW2]; exact (Below.refl _ _).alloc (Nat.le_refl _) _
  have hz1 : ZoneIn W1 (.slice (some ⟨w.heap.size, 0, none⟩) 1 1) (.slice none 0 0) exZ.1 exZ.2 := by
    refine ⟨⟨_, _, rfl, rfl, .inr ⟨w.heap.size, 0, rfl, by rw [← hW1]; simp, fun t x hx => ?_⟩⟩, RdK.zero _ _ _ _⟩
    rw [← hW1, World.cell?_alloc_at _ _ _ _ (by simp)]
    simpa [cellsP, exZ] using hx
  have hl : RdK W2 1 (.slice (some ⟨W1.heap.size, 0, none⟩) 1 1) 1 (ints [0]) := by
    refine ⟨_, _, rfl, rfl, .inr ⟨W1.heap.size, 0, rfl, by rw [← hW2]; simp, fun t x hx => ?_⟩⟩
    rw [← hW2, World.cell?_alloc_at _ _ _ _ (by simp)]
    simpa [ints] using hx
  have hb2 := hb1.trans (hb12.mono hb1.size)
  have hp := write_any (ht.keep hb2) 1 (hz1.below hb12) hl (by decide) (by decide) (by decide) ex_ok
  rw [ex_write] at hp
  have HP := Lib.hid hp
  have HB2 := Lib.hid hb2
  clear hz1 hl hp hb1 hb12 hb2 ht
  go_enter Tryd.func6, Tryd.ntmps6
  go_wp2_with fail
  refine HP.out.mono ?_
  rintro e w1 ⟨v', rfl, hz, hb⟩
  obtain ⟨ad, cap, hv⟩ := hz.len
  subst hv
  obtain ⟨g, off, c1, c2, rfl, -, -, d0, d1, z0⟩ := hz.at (k := 0) rfl
  obtain ⟨g', off', c3, c4, e1, -, -, d2, d3, z1⟩ := hz.at (k := 1) rfl
  cases e1
  obtain ⟨g', off', c5, c6, e1, -, -, d4, d5, z2⟩ := hz.at (k := 2) rfl
  cases e1
  obtain ⟨g0, o0, k0, rfl, f0⟩ := z0.cls (k := 0) (x := 1) (y := -1) rfl
  obtain ⟨g1, o1, k1, rfl, f1⟩ := z1.cls (k := 0) (x := 3) (y := -1) rfl
  obtain ⟨g2, o2, k2, rfl, f2⟩ := z2.cls (k := 1) (x := 1) (y := -1) rfl
  have HB := Lib.hid (HB2.out.trans (hb.mono HB2.out.size))
  simp only [Nat.zero_mul, Nat.one_mul, Nat.add_zero, List.length_cons, List.length_nil, Nat.zero_add, Nat.reduceAdd, Nat.reduceMul] at d0 d1 d2 d3 d4 d5 f0 f1 f2 ⊢
  clear hz hb z0 z1 z2 HP
  go_wp2
  go_ret
  exact ⟨rfl, HB.out⟩

end Go.Proofs.YtkkoooagamadjaaDoor

namespace Go.Proofs.YtkkoooagamadjaaDoor
open Go.RowKit Go.ChangeShapes Go.WideShapes Go.Deep

section
variable {H : Type} {enc : TypeId × Value → H} {w : World} {base : Nat} {sp : Nat → Bool} {hd : Bool}

theorem celz_int : Tryd.prog.cellsOf 3 = 1 := by kernel_rfl
theorem celz_cls : Tryd.prog.cellsOf 42 = 2 := by kernel_rfl
theorem celz_zone : Tryd.prog.cellsOf 26 = 2 := by kernel_rfl
theorem celz_cs : Tryd.prog.cellsOf 23 = 1 := by kernel_rfl
theorem celz_is : Tryd.prog.cellsOf 24 = 1 := by kernel_rfl

def In64 (x : Int) : Prop := -9223372036854775808 ≤ x ∧ x ≤ 9223372036854775807
def ClsOK (c : Int × Int) : Prop := In64 c.1 ∧ In64 c.2

set_option maxRecDepth 100000 in
theorem opz_cls {fuel : Nat} {cs : List Value} {x : DataW H × List MemPlace} (h : DataW.trod enc Tryd.prog w base sp hd fuel 42 cs = some x) : ∃ c : Int × Int, cs = [.int .i64 c.1, .int .i64 c.2] ∧ ClsOK c := by
  obtain ⟨xs, n, _, _, hlen, hxl, hf⟩ := DataW.trod_struct Tryd.underlying42 h
  rw [celz_cls] at hlen
  match cs, hlen with
  | [v0, v1], _ =>
    have hx0 := List.getElem?_eq_getElem (show 0 < xs.length by rw [hxl]; decide)
    have hx1 := List.getElem?_eq_getElem (show 1 < xs.length by rw [hxl]; decide)
    have g0 : DataW.trod enc Tryd.prog w base sp hd n 3 (([v0, v1].drop 0).take (Tryd.prog.cellsOf 3)) = xs[0]? := hf 0 _ rfl
    have g1 : DataW.trod enc Tryd.prog w base sp hd n 3 (([v0, v1].drop 1).take (Tryd.prog.cellsOf 3)) = xs[1]? := hf 1 _ rfl
    rw [hx0] at g0; rw [hx1] at g1
    simp only [celz_int, List.drop, List.take] at g0 g1
    obtain ⟨a, e0, _, w0⟩ := DataW.trod_int Tryd.underlying3 g0
    obtain ⟨b, e1, _, w1⟩ := DataW.trod_int Tryd.underlying3 g1
    simp only [List.cons.injEq, and_true] at e0 e1
    exact ⟨(a, b), by rw [e0, e1], bounds_i64 w0, bounds_i64 w1⟩

set_option maxRecDepth 100000 in
theorem opz_cs {fuel : Nat} {ad : Option Addr} {n cap : Nat} {x : DataW H × List MemPlace} (h : DataW.trod enc Tryd.prog w base sp hd fuel 23 [.slice ad n cap] = some x) :
    ∃ T : List (Int × Int), T.length = n ∧ RdK w 2 (.slice ad n cap) n (cellsP T) ∧ n ≤ cap ∧ ∀ y ∈ T, ClsOK y := by
  rcases open_slice Tryd.underlying23 h with ⟨he, _⟩ | ⟨a, len, c, m, k, D, Pl, he, hb, hl, hm, hmm, hx, hall⟩
  · simp only [List.cons.injEq, Value.slice.injEq, and_true] at he
    obtain ⟨rfl, rfl, rfl⟩ := he
    exact ⟨[], rfl, ⟨none, 0, rfl, rfl, .inl rfl⟩, Nat.le_refl _, fun y hy => by cases hy⟩
  · simp only [List.cons.injEq, Value.slice.injEq, and_true] at he
    obtain ⟨rfl, rfl, rfl⟩ := he
    have hnm : n ≤ m := by rw [hmm]; split <;> omega
    have each : ∀ i, i < n → ∃ t : Int × Int, ClsOK t ∧ w.cell? (a.add (i * 2)) = some (.int .i64 t.1) ∧ w.cell? (a.add (i * 2 + 1)) = some (.int .i64 t.2) := by
      intro i hi
      obtain ⟨cs, h1, h2⟩ := hall i (by omega)
      rw [celz_cls] at h1
      obtain ⟨t, rfl, hnum⟩ := opz_cls h2
      obtain ⟨_, hlen, hcell⟩ := World.cells?_some h1
      refine ⟨t, hnum, ?_, ?_⟩
      · have := hcell 0 (by decide)
        rw [add_add] at this
        exact this
      · have := hcell 1 (by decide)
        rw [add_add] at this
        exact this
    obtain ⟨t, ht⟩ := choose_lt each
    by_cases h0 : n = 0
    · subst h0
      exact ⟨[], rfl, ⟨_, cap, rfl, rfl, .inl rfl⟩, hl, fun y hy => by cases hy⟩
    have hz := (ht 0 (by omega)).2.1
    obtain ⟨b, off, spot⟩ := a
    have hspot : spot = none := by simpa [Addr.add] using World.cell?_spot hz
    subst hspot
    have hadd : ∀ i, (⟨b, off, none⟩ : Addr).add i = ⟨b, off + i, none⟩ := fun i => by unfold Addr.add; split <;> simp_all
    refine ⟨(List.range n).map t, by simp, ⟨_, cap, rfl, by rw [cellsP_len]; simp, .inr ⟨b, off, rfl, World.block_lt_of_cell? w _ (by rw [hadd] at hz; exact hz), fun j y hy => ?_⟩⟩, hl, ?_⟩
    · have hj := (List.getElem?_eq_some_iff.1 hy).1
      rw [cellsP_len, List.length_map, List.length_range] at hj
      obtain ⟨i, hi, e⟩ : ∃ i, i < n ∧ (j = i * 2 ∨ j = i * 2 + 1) := ⟨j / 2, by omega, by omega⟩
      have hg : ((List.range n).map t)[i]? = some ((t i).1, (t i).2) := by simp [hi]
      obtain ⟨q1, q2⟩ := cellsP_get _ _ _ hg
      obtain ⟨_, e1, e2⟩ := ht i hi
      rw [hadd] at e1 e2
      rcases e with rfl | rfl
      · exact e1.trans (q1.symm.trans hy)
      · exact e2.trans (q2.symm.trans hy)
    · intro y hy
      obtain ⟨i, hi, rfl⟩ := List.mem_map.1 hy
      exact (ht i (by simpa using hi)).1

set_option maxRecDepth 100000 in
theorem opz_is {fuel : Nat} {ad : Option Addr} {n cap : Nat} {x : DataW H × List MemPlace} (h : DataW.trod enc Tryd.prog w base sp hd fuel 24 [.slice ad n cap] = some x) :
    ∃ T : List Int, T.length = n ∧ RdK w 1 (.slice ad n cap) n (ints T) ∧ ∀ y ∈ T, In64 y := by
  rcases open_slice Tryd.underlying24 h with ⟨he, _⟩ | ⟨a, len, c, m, k, D, Pl, he, hb, hl, hm, hmm, hx, hall⟩
  · simp only [List.cons.injEq, Value.slice.injEq, and_true] at he
    obtain ⟨rfl, rfl, rfl⟩ := he
    exact ⟨[], rfl, ⟨none, 0, rfl, rfl, .inl rfl⟩, fun y hy => by cases hy⟩
  · simp only [List.cons.injEq, Value.slice.injEq, and_true] at he
    obtain ⟨rfl, rfl, rfl⟩ := he
    have hnm : n ≤ m := by rw [hmm]; split <;> omega
    have each : ∀ i, i < n → ∃ t : Int, In64 t ∧ w.cell? (a.add i) = some (.int .i64 t) := by
      intro i hi
      obtain ⟨cs, h1, h2⟩ := hall i (by omega)
      rw [celz_int] at h1
      obtain ⟨t, rfl, _, wf⟩ := DataW.trod_int Tryd.underlying3 h2
      obtain ⟨_, hlen, hcell⟩ := World.cells?_some h1
      have := hcell 0 (by decide)
      rw [Nat.mul_one] at this
      refine ⟨t, bounds_i64 wf, ?_⟩
      rw [show (a.add i).add 0 = a.add i by rw [add_add, Nat.add_zero]] at this
      exact this
    obtain ⟨t, ht⟩ := choose_lt each
    by_cases h0 : n = 0
    · subst h0
      exact ⟨[], rfl, ⟨_, cap, rfl, rfl, .inl rfl⟩, fun y hy => by cases hy⟩
    have hz := (ht 0 (by omega)).2
    obtain ⟨b, off, spot⟩ := a
    have hspot : spot = none := by simpa [Addr.add] using World.cell?_spot hz
    subst hspot
    have hadd : ∀ i, (⟨b, off, none⟩ : Addr).add i = ⟨b, off + i, none⟩ := fun i => by unfold Addr.add; split <;> simp_all
    refine ⟨(List.range n).map t, by simp, ⟨_, cap, rfl, by simp [ints], .inr ⟨b, off, rfl, World.block_lt_of_cell? w _ (by rw [hadd] at hz; exact hz), fun j y hy => ?_⟩⟩, ?_⟩
    · have hi : j < n := by have := (List.getElem?_eq_some_iff.1 hy).1; simpa [ints] using this
      have e := (ht j hi).2
      rw [hadd] at e
      simp [ints, hi] at hy
      rw [e, hy]
    · intro y hy
      obtain ⟨i, hi, rfl⟩ := List.mem_map.1 hy
      exact (ht i (by simpa using hi)).1

set_option maxRecDepth 100000 in
/-- a zone that came in -/
theorem open_zone {fuel : Nat} {cs : List Value} {x : DataW H × List MemPlace} (h : DataW.trod enc Tryd.prog w base sp hd fuel 26 cs = some x) :
    ∃ v1 v2 cl gl, cs = [v1, v2] ∧ ZoneIn w v1 v2 cl gl ∧ (∀ ad n c, v1 = .slice ad n c → n ≤ c) ∧ (∀ c ∈ cl, ClsOK c) ∧ ∀ g ∈ gl, In64 g := by
  obtain ⟨xs, n, _, _, hlen, hxl, hf⟩ := DataW.trod_struct Tryd.underlying26 h
  rw [celz_zone] at hlen
  match cs, hlen with
  | [v0, v1], _ =>
    have hx0 := List.getElem?_eq_getElem (show 0 < xs.length by rw [hxl]; decide)
    have hx1 := List.getElem?_eq_getElem (show 1 < xs.length by rw [hxl]; decide)
    have g0 : DataW.trod enc Tryd.prog w base sp hd n 23 (([v0, v1].drop 0).take (Tryd.prog.cellsOf 23)) = xs[0]? := hf 0 _ rfl
    have g1 : DataW.trod enc Tryd.prog w base sp hd n 24 (([v0, v1].drop 1).take (Tryd.prog.cellsOf 24)) = xs[1]? := hf 1 _ rfl
    rw [hx0] at g0; rw [hx1] at g1
    simp only [celz_cs, celz_is, List.drop, List.take] at g0 g1
    have f0 : ∃ ad n cap, v0 = .slice ad n cap := by
      rcases open_slice Tryd.underlying23 g0 with ⟨he, _⟩ | ⟨a, len, c, m, k, D, Pl, he, _⟩
      · simp only [List.cons.injEq, and_true] at he; exact ⟨_, _, _, he⟩
      · simp only [List.cons.injEq, and_true] at he; exact ⟨_, _, _, he⟩
    have f1 : ∃ ad n cap, v1 = .slice ad n cap := by
      rcases open_slice Tryd.underlying24 g1 with ⟨he, _⟩ | ⟨a, len, c, m, k, D, Pl, he, _⟩
      · simp only [List.cons.injEq, and_true] at he; exact ⟨_, _, _, he⟩
      · simp only [List.cons.injEq, and_true] at he; exact ⟨_, _, _, he⟩
    obtain ⟨ad0, n0, cap0, rfl⟩ := f0
    obtain ⟨ad1, n1, cap1, rfl⟩ := f1
    obtain ⟨cl, hl0, r0, hc0, hb0⟩ := opz_cs g0
    obtain ⟨gl, hl1, r1, hb1⟩ := opz_is g1
    exact ⟨_, _, cl, gl, rfl, ⟨by rw [hl0]; exact r0, by rw [hl1]; exact r1⟩, fun ad n c e => by cases e; exact hc0, hb0, hb1⟩
end
end Go.Proofs.YtkkoooagamadjaaDoor

namespace Go.Proofs.YtkkoooagamadjaaDoor
open Go.RowKit Go.Shelf

theorem ZoneAt.first {W : World} {base : Nat} {c1 c2 : Value} {cl : List (Int × Int)} {gl : List Int} (h : ZoneAt W base c1 c2 cl gl) {k : Nat} {x y : Int} (hk : cl[k]? = some (x, y)) :
    ∃ g cap, c1 = .slice (some ⟨g, 0, none⟩) cl.length cap ∧ g < W.heap.size ∧ W.cell? ⟨g, k * 2, none⟩ = some (.int .i64 x) := by
  have hkl := (List.getElem?_eq_some_iff.1 hk).1
  obtain ⟨g, cap, rfl, _, hg⟩ := owns_shape h.1 (by omega)
  exact ⟨g, cap, rfl, hg, by rw [h.1.cellAt _ (by omega)]; exact (cellsP_get _ _ _ hk).1⟩

end Go.Proofs.YtkkoooagamadjaaDoor

namespace Go.Proofs.YtkkoooagamadjaaDoor
open Go.RowKit Go.Shelf

/-- how the numbers, the list and what was seen lie -/
structure PT (w : World) (B : Nat) (vv lv sv : Value) (row : List Int) (L S : List Zn) (W : World) : Prop where
  v : W.ownsRow w.heap.size 2 1 vv row.length (ints row)
  l : ZonesAt W w.heap.size lv L
  lB : ∀ k, lv.ownBlock = some k → k < B
  s : ZonesAt W B sv S
  low : Below w.heap.size w W
  hB : w.heap.size ≤ B
  hs : B ≤ W.heap.size

theorem PT.below {w W W' : World} {B : Nat} {vv lv sv : Value} {row : List Int} {L S : List Zn} (h : PT w B vv lv sv row L S W) (hb : Below W.heap.size W W') : PT w B vv lv sv row L S W' :=
  ⟨owns_below h.v hb, h.l.below hb, h.lB, h.s.below hb, h.low.trans (hb.mono h.low.size), h.hB, Nat.le_trans h.hs hb.size⟩

theorem ZonesAt.other {W W' : World} {base : Nat} {v : Value} {zs : List Zn} {row : Option Nat} (h : ZonesAt W base v zs) (hg : W.grownBy W' row) (hr : ∀ k, row = some k → ∀ cs t f, W.heap[k]? = some (.cells cs t f) → t ≠ 42 ∧ t ≠ 3) (hv : v.ownBlock = none ∨ v.ownBlock ≠ row) : ZonesAt W' base v zs := by
  obtain ⟨ps, hl, hrw, hz⟩ := h
  have key : ∀ {e : TypeId} {sz n : Nat} {u : Value} {xs : List Value}, W.ownsRow base e sz u n xs → (e = 42 ∨ e = 3) → W'.ownsRow base e sz u n xs := by
    intro e sz n u xs hu he
    refine hu.kept hg ?_
    rcases hu.2 with ⟨rfl, _⟩ | ⟨g, cap, cur, rfl, _, hgg, _⟩
    · exact .inl rfl
    · refine .inr fun e' => ?_
      have hk := hr g e'.symm _ _ _ hgg
      rcases he with rfl | rfl
      · exact hk.1 rfl
      · exact hk.2 rfl
  exact ⟨ps, hl, hrw.kept hg hv, fun i p z h1 h2 => ⟨key (hz i p z h1 h2).1 (.inl rfl), key (hz i p z h1 h2).2 (.inr rfl)⟩⟩

theorem row_block {W : World} {base n sz : Nat} {e : TypeId} {v : Value} {xs : List Value} (h : W.ownsRow base e sz v n xs) : ∀ k, v.ownBlock = some k → ∀ cs t f, W.heap[k]? = some (.cells cs t f) → t = e := by
  intro k hk cs t f hh
  rcases h.2 with ⟨rfl, _⟩ | ⟨g, cap, cur, rfl, _, hgg, _⟩
  · simp [Value.ownBlock] at hk
  · have e2 : g = k := by simpa [Value.ownBlock] using hk
    subst e2
    rw [hgg] at hh
    cases hh; rfl

theorem rows_apart {W : World} {b1 b2 n1 n2 s1 s2 : Nat} {e1 e2 : TypeId} {v1 v2 : Value} {x1 x2 : List Value} (h1 : W.ownsRow b1 e1 s1 v1 n1 x1) (h2 : W.ownsRow b2 e2 s2 v2 n2 x2) (he : e1 ≠ e2) : v1.ownBlock = none ∨ v1.ownBlock ≠ v2.ownBlock := by
  rcases h1.2 with ⟨rfl, _⟩ | ⟨g, cap, cur, rfl, _, hgg, _⟩
  · exact .inl rfl
  · refine .inr fun e => ?_
    exact he (row_block h2 g e.symm _ _ _ hgg)

/-- a number set -/
theorem PT.set {w W : World} {B g n cap : Nat} {lv sv : Value} {row : List Int} {L S : List Zn} (h : PT w B (.slice (some ⟨g, 0, none⟩) n cap) lv sv row L S W) (a : Nat) (x : Int) : PT w B (.slice (some ⟨g, 0, none⟩) n cap) lv sv (row.set a x) L S (W.setCell ⟨g, a, none⟩ (.int .i64 x)) := by
  have hv := h.v
  obtain ⟨ad, c, e⟩ := owns_len hv
  simp only [Value.slice.injEq] at e
  obtain ⟨-, rfl, -⟩ := e
  obtain ⟨s1, s2⟩ := hv.stored a (.int .i64 x)
  have hgb : w.heap.size ≤ g := (hv.lt g rfl).1
  have hty : ∀ k, some g = some k → ∀ cs t f, W.heap[k]? = some (.cells cs t f) → t ≠ 42 ∧ t ≠ 3 := by
    intro k hk cs t f hh
    cases hk
    have := row_block hv g rfl _ _ _ hh
    subst this
    exact ⟨by decide, by decide⟩
  have ap : ∀ {base : Nat} {v : Value} {zs : List Zn}, ZonesAt W base v zs → v.ownBlock = none ∨ v.ownBlock ≠ some g := by
    rintro base v zs ⟨ps, _, hr, _⟩
    exact rows_apart hr hv (by decide)
  refine ⟨?_, h.l.other s2 hty (ap h.l), h.lB, h.s.other s2 hty (ap h.s), h.low.setCell hgb _, h.hB, by simpa [World.setCell] using h.hs⟩
  have e : ints (row.set a x) = (ints row).set a (.int .i64 x) := by simp [ints, List.map_set]
  rw [List.length_set, e]
  exact s1

/-- a zone more was seen -/
theorem PT.app {w W : World} {B b : Nat} {vv lv sv c1 c2 : Value} {row : List Int} {L S : List Zn} {z : Zn} (h : PT w B vv lv sv row L S W) (hz : ZoneAt W b c1 c2 z.1 z.2) (hb : B ≤ b) (hl : S.length ≤ 100000) (ty : TypeId) :
    ∃ ad cap w', (Builtin.append_ #[22, 22] ty #[sv, .slice (some ⟨W.heap.size, 0, none⟩) 1 1]).run Tryd.prog (W.alloc (.cells #[c1, c2] 26)) = .ok (.slice ad (S.length + 1) cap) w' ∧ PT w B vv lv (.slice ad (S.length + 1) cap) row L (S ++ [z]) w' ∧
      ZoneAt w' b c1 c2 z.1 z.2 ∧ ∀ q u1 u2, Box2 W q u1 u2 → sv.ownBlock ≠ some q → Box2 w' q u1 u2 := by
  have hba : Below W.heap.size W (W.alloc (.cells #[c1, c2] 26)) := (Below.refl _ W).alloc (Nat.le_refl _) _
  have ha := h.below hba
  have hz2 := hz.below hba
  obtain ⟨ps, hpl, hr, hzz⟩ := ha.s
  have o1 : c1.oneCell' = true := owns_one2 hz.1
  have o2 : c2.oneCell' = true := owns_one1 hz.2
  have hrd : RdK (W.alloc (.cells #[c1, c2] 26)) 2 (.slice (some ⟨W.heap.size, 0, none⟩) 1 1) 1 [c1, c2] := by
    refine ⟨_, _, rfl, rfl, .inr ⟨W.heap.size, 0, rfl, by simp, fun t x hx => ?_⟩⟩
    rw [World.cell?_alloc_at _ _ _ _ (by simp)]
    simpa using hx
  obtain ⟨v', w', hrun, ho, hg⟩ := appK_run (P := Tryd.prog) _ 22 ty 26 (.agg #[.slice none 0 0, .slice none 0 0]) 2 48 B Tryd.underlying22 info_zone rfl (by decide) (by decide) sv S.length (zcells ps) hr _ 1 [c1, c2] hrd (by simp [o1, o2]) (by omega) ha.hs
  obtain ⟨ad, cap, hv⟩ := owns_len ho
  subst hv
  have hlt := hr.lt
  have hty : ∀ k, sv.ownBlock = some k → ∀ cs t f, (W.alloc (.cells #[c1, c2] 26)).heap[k]? = some (.cells cs t f) → t ≠ 42 ∧ t ≠ 3 := by
    intro k hk cs t f hh
    have := row_block hr k hk _ _ _ hh
    subst this
    exact ⟨by decide, by decide⟩
  have hlv : lv.ownBlock = none ∨ lv.ownBlock ≠ sv.ownBlock := by
    cases e : lv.ownBlock with
    | none => exact .inl rfl
    | some k =>
      refine .inr fun e' => ?_
      have := h.lB k e
      have := (hlt k e'.symm).1
      omega
  refine ⟨ad, cap, w', hrun, ⟨owns_beside hr ha.v (by decide) hg, ha.l.other hg hty hlv, h.lB, ZonesAt.app hpl hr hzz ⟨owns_mono hz2.1 hb, owns_mono hz2.2 hb⟩ ho hg, ha.low.grown hg ha.low.size (fun k hk => by have := (hlt k hk).1; have := h.hB; omega), h.hB, Nat.le_trans ha.hs hg.size⟩, ?_, ?_⟩
  · exact hz2.grown hr hg
  · intro q u1 u2 hq hne
    exact (hq.alloc _).kept hg hne

end Go.Proofs.YtkkoooagamadjaaDoor

namespace Go.Proofs.YtkkoooagamadjaaDoor
open Go.RowKit Go.Shelf

theorem nodup_len {α : Type} [DecidableEq α] {S L : List α} (h1 : S.Nodup) (h2 : L.Nodup) (h3 : ∀ z ∈ S, z ∈ L) (h4 : ∀ z ∈ L, z ∈ S) : S.length = L.length :=
  ((List.perm_ext_iff_of_nodup h1 h2).2 fun z => ⟨h3 z, h4 z⟩).length_eq

theorem oth_len (vals consts : List Int) (a : Nat) : (othZ vals consts a).length ≤ consts.length + vals.length := by
  unfold othZ
  have h1 := sortS_len (consts ++ selZ vals (inZ vals.length [(a : Int)]) vals.length)
  have h2 := selZ_len vals (inZ vals.length [(a : Int)]) vals.length
  rw [List.length_append] at h1
  omega
theorem som_len (vals consts : List Int) (a : Nat) (r : Int) : (somZ vals consts a r).1.length ≤ consts.length + vals.length ∧ (somZ vals consts a r).2.length ≤ consts.length + vals.length := by
  have := oth_len vals consts a
  unfold somZ zoneZ
  refine ⟨by rw [List.length_map]; exact this, ?_⟩
  rw [gapsZ_len]; omega
theorem all_len (vals consts : List Int) (a : Nat) (r x : Int) : (allX vals consts a r x).1.length ≤ consts.length + vals.length ∧ (allX vals consts a r x).2.length ≤ consts.length + vals.length := by
  have h1 := sortS_len (vals.set a x ++ consts)
  rw [List.length_append, List.length_set] at h1
  unfold allX zoneZ
  refine ⟨by rw [List.length_map]; omega, ?_⟩
  rw [gapsZ_len]; omega
theorem mem_oth_bound (vals consts : List Int) (a : Nat) (l h : Int) (hb : ∀ x ∈ consts ++ vals, l ≤ x ∧ x ≤ h) : ∀ x ∈ othZ vals consts a, l ≤ x ∧ x ≤ h := by
  intro x hx
  rcases (mem_oth _ _ _ _).1 hx with h1 | ⟨k, h1, _, rfl⟩
  · exact hb x (List.mem_append_left _ h1)
  · refine hb _ (List.mem_append_right _ ?_)
    rw [List.getD_eq_getElem?_getD, List.getElem?_eq_getElem h1]
    exact List.getElem_mem _
theorem set_bound (vals consts : List Int) (a : Nat) (x : Int) (hb : ∀ x ∈ consts ++ vals, -100 ≤ x ∧ x ≤ 100) (hx : -1000 ≤ x ∧ x ≤ 1000) : ∀ y ∈ vals.set a x ++ consts, -9223372036854775808 ≤ y ∧ y ≤ 9223372036854775807 := by
  intro y hy
  rcases List.mem_append.1 hy with h | h
  · rcases List.mem_or_eq_of_mem_set h with h | rfl
    · have := hb y (List.mem_append_right _ h); omega
    · omega
  · have := hb y (List.mem_append_left _ h); omega
theorem kap_step (r : Int) (h1 : 1 ≤ r) (h2 : r ≤ 4) : kap (r - 1) ≤ kap r ∧ kap r ≤ 31 := by
  have hc : r = 1 ∨ r = 2 ∨ r = 3 ∨ r = 4 := by omega
  rcases hc with rfl | rfl | rfl | rfl <;> decide

end Go.Proofs.YtkkoooagamadjaaDoor
