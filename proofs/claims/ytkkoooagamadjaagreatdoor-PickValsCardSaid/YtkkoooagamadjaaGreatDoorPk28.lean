/- Has of warderref25, SameAll of warderlaw24: zones wherever they lie. Printed numbers: contract of num.Print, for a seat without names; rows of strings, joined. zone.Text. -/
import Derived.Test.YtkkoooagamadjaaGreatDoorPk27
import Derived.Lib.LaidTab
import Derived.WalkSmall
import Derived.Lib.ItoaNum
import Derived.Lib.AppendIntMem
import Derived.Laws.IdiomStrings
import Derived.Test.YtkkoooagamadjaaGreatDoorShelf
import Derived.Test.YtkkoooagamadjaaGreatDoorPk13
import Derived.Test.YtkkoooagamadjaaGreatDoorPk10
import Derived.Test.YtkkoooagamadjaaGreatDoorPk26
import Derived.Test.YtkkoooagamadjaaGreatDoorPk14
import Derived.Deep.RegionHeld3
import Derived.Deep.RegionLaw
import Derived.Deep.DeepCutAuto
import Derived.Deep.CutRange

namespace Go.Proofs.YtkkoooagamadjaaGreatDoor
open Go.RowKit Go.Shelf

set_option maxRecDepth 100000 in
set_option maxHeartbeats 2000000 in
theorem hasI_any {w : World} {v1 u1 u2 : Value} {zs : List Zn} {z : Zn} (h1 : ZIs w v1 zs) (h2 : ZoneIn w u1 u2 z.1 z.2) (hs : ∀ z ∈ zs, SmallZ z) (hz : SmallZ z) (hl : zs.length ≤ 100000) :
    Calls Tryz.prog 8 #[v1, .agg #[u1, u2]] w fun e w' => e = .returned (.bool (decide (z ∈ zs))) ∧ Below w.heap.size w w' := by
  obtain ⟨ad1, k1, rfl⟩ := h1.len
  obtain ⟨a3, k3, e3⟩ := h2.1.len
  obtain ⟨a4, k4, e4⟩ := h2.2.len
  obtain ⟨n, hn⟩ : ∃ n, zs.length = n := ⟨_, rfl⟩
  obtain ⟨p, hp⟩ : ∃ p, z.1.length = p := ⟨_, rfl⟩
  obtain ⟨q, hq⟩ : ∃ q, z.2.length = q := ⟨_, rfl⟩
  rw [hp] at e3; rw [hq] at e4
  subst e3; subst e4
  obtain ⟨ans, ha⟩ : ∃ ans, decide (z ∈ zs) = ans := ⟨_, rfl⟩
  rw [ha]
  have hb0 : Below w.heap.size w (w.alloc (.cells #[.slice a3 p k3, .slice a4 q k4] 28)) := (Below.refl _ w).alloc (Nat.le_refl _) _
  have x2 := Box2.new w (.slice a3 p k3) (.slice a4 q k4)
  have HA := Lib.hid ha; have HB0 := Lib.hid hb0; have X2 := Lib.hid x2
  have HN := Lib.hid hn; have H1 := Lib.hid (h1.below hb0); have H2 := Lib.hid (h2.below hb0); have HS := Lib.hid hs; have HZ := Lib.hid hz
  rw [hn] at H1 hl ⊢
  clear h1 h2 hs hn hp hq ha hb0 x2 hz
  go_enter Tryz.func8, Tryz.ntmps8
  go_wp2_with fail
  obtain ⟨W0, hW0⟩ : ∃ W0, (w.alloc (.cells #[.slice a3 p k3, .slice a4 q k4] 28)) = W0 := ⟨_, rfl⟩
  rw [hW0] at X2 H1 H2 HB0 ⊢
  clear hW0
  go_loopw [5] (fun i wr => ∃ k : Nat, k ≤ n ∧ i = .int .i64 k ∧ Hid (Below W0.heap.size W0 wr) ∧ Hid (∀ j y, j < k → zs[j]? = some y → y ≠ z)) (fun i _ => n - (intOf i).toNat)
  case atStart => exact ⟨0, Nat.zero_le _, rfl, Below.refl _ _, fun j y h => by omega⟩
  case round =>
    obtain ⟨k, hk, rfl, HB, HE⟩ := hrel
    by_cases hlt : k < n
    · have hkn : (k : Int) < (n : Int) := by omega
      have hk0 : (0 : Int) ≤ (k : Int) := by omega
      obtain ⟨y, hy⟩ : ∃ y, zs[k]? = some y := ⟨_, List.getElem?_eq_getElem (by rw [HN.out]; exact hlt)⟩
      obtain ⟨g1, o1, c1, c2, rfl, -, -, d0, d1, hz1, -⟩ := (H1.out.below HB.out).at hy
      have hz2 := H2.out.below HB.out
      have x2 : Box2 wr w.heap.size _ _ := (HB.out.block _ X2.out.lt).trans X2.out
      have d2 := x2.c0; have d3 := x2.c1
      obtain ⟨s1, s2⟩ := HS.out y (List.mem_of_getElem? hy)
      have s3 := HZ.out.1; have s4 := HZ.out.2
      have HSM := Lib.hid (zsameNI_any c1 c2 _ _ y.1 z.1 y.2 z.2 wr.drew hz1 hz2 (by omega) (by omega) (by omega) (by omega))
      obtain ⟨xa, xc, hx1⟩ := hz1.1.len
      obtain ⟨ya, yc, hy1⟩ := hz1.2.len
      subst hx1; subst hy1
      obtain ⟨eq, heq⟩ : ∃ eq, decide ((y.1, y.2) = (z.1, z.2)) = eq := ⟨_, rfl⟩
      rw [heq] at HSM
      have HEQ := Lib.hid heq
      have HY := Lib.hid hy
      clear hy hz1 hz2 x2 heq s1 s2 s3 s4
      go_upto_region 4 with fail
      go_cut [17] from 6 to 17 (fun v17 wx => v17 = .bool eq ∧ Hid (Below W0.heap.size W0 wx))
      case first =>
        go_region_law (first
          | (go_simp; go_at_call 16; (with_reducible refine HSM.out.mono ?_)
             rintro e w5 ⟨rfl, hb5⟩
             have HB5 := Lib.hid (show Below W0.heap.size W0 w5 from HB.out.drew.trans (hb5.mono HB.out.drew.size))
             clear hb5))
        all_goals
          go_wp2_with fail
          go_meet
          exact ⟨rfl, HB5⟩
      case rest =>
        clear d0 d1 d2 d3 HSM HB
        obtain ⟨rfl, HB⟩ := hcut
        cases eq
        · have HE2 : Hid (∀ j y, j < k + 1 → zs[j]? = some y → y ≠ z) := Lib.hid fun j y' h h' => by
            by_cases hjk : j < k
            · exact HE.out j y' hjk h'
            · obtain rfl : j = k := by omega
              have e := HY.out.symm.trans h'
              cases e
              exact fun e => of_decide_eq_false HEQ.out (by rw [e])
          go_wp2_with fail
          go_roundw
          case rel => exact ⟨k + 1, by omega, by go_num, HB, HE2⟩
          case measure => simp [intOf]; omega
        · have HF := Lib.hid (HB0.out.trans (HB.out.mono HB0.out.size))
          obtain rfl : ans = true := by
            rw [← HA.out]
            refine decide_eq_true ?_
            have e : y = z := of_decide_eq_true HEQ.out
            rw [← e]; exact List.mem_of_getElem? HY.out
          go_wp2_with fail
          go_ret
          exact ⟨rfl, HF.out⟩
    · obtain rfl : k = n := by omega
      have HF := Lib.hid (HB0.out.trans (HB.out.mono HB0.out.size))
      obtain rfl : ans = false := by
        rw [← HA.out]
        refine decide_eq_false fun e => ?_
        obtain ⟨j, hj, e⟩ := List.getElem_of_mem e
        exact HE.out j z (by rw [← HN.out]; exact hj) (by rw [List.getElem?_eq_getElem hj, e]) rfl
      go_wp2
      go_ret
      exact ⟨rfl, HF.out⟩

end Go.Proofs.YtkkoooagamadjaaGreatDoor

namespace Go.Proofs.YtkkoooagamadjaaGreatDoor
open Go.RowKit

/-- the table of the library that is read -/
def PTab (w : World) : Prop := Lib.TabIs Tryz.prog w "internal/strconv.uint64pow10" .u64 Lib.pow10Tab
theorem varP_lt {w : World} {n : String} {g : Nat} {cs : Array Value} (hg : Tryz.prog.globalNamed n = some g) (h : w.var? Tryz.prog n = some cs) : g < w.heap.size := by
  unfold World.var? at h
  rw [hg] at h
  rcases Nat.lt_or_ge g w.heap.size with h' | h'
  · exact h'
  · rw [Option.bind_some, Array.getElem?_eq_none h'] at h; simp at h
theorem PTab.low {w : World} (h : PTab w) : 0 < w.heap.size := varP_lt (show Tryz.prog.globalNamed "internal/strconv.uint64pow10" = some 0 by kernel_rfl) h
theorem PTab.keep {w w' : World} (h : PTab w) (hb : Below w.heap.size w w') : PTab w' :=
  var?_below hb (show Tryz.prog.globalNamed "internal/strconv.uint64pow10" = some 0 by kernel_rfl) h.low h

section
open Go.Sort
theorem below_printP (w : World) (k : Nat) (os : Array Obj) : Below w.heap.size w (grow (w.drewN k) os) := Lib.below_grow _ w (Nat.le_refl _) k os
set_option maxHeartbeats 1000000 in
theorem print_P {w : World} (ht : PTab w) (n : Int) (h0 : -9223372036854775808 ≤ n) (h1 : n ≤ 9223372036854775807) :
    Calls Tryz.prog 89 #[.int .i64 n] w fun e w' => e = .returned (.string ⟨(Lib.itoa n).toArray⟩) ∧ Below w.heap.size w w' := by
  have HF := Lib.hid (Tryz.strconv_FormatInt_10 n h0 h1 w ht)
  clear ht
  go_enter Tryz.func89, Tryz.ntmps89
  go_wp2_with fail
  refine HF.out.mono ?_
  rintro e w2 ⟨rfl, k, os, rfl⟩
  have HB := Lib.hid (below_printP w k os)
  go_wp2
  go_ret
  exact ⟨rfl, HB.out⟩
end

theorem decDigitsP_len : ∀ (k n : Nat), 0 < k → n < 10 ^ k → (Lib.decDigits n).length ≤ k
  | 0, _, h, _ => by omega
  | k + 1, n, _, h => by
    rw [Lib.decDigits]
    split
    · simp
    · rename_i hn
      have : n / 10 < 10 ^ k := by rw [Nat.pow_succ] at h; omega
      have hk : 0 < k := by
        rcases Nat.eq_zero_or_pos k with h0 | h0
        · subst h0; simp at this; omega
        · exact h0
      have := decDigitsP_len k (n / 10) hk this
      simp; omega
theorem itoaP_len (n : Int) (h : -9223372036854775808 ≤ n ∧ n ≤ 9223372036854775807) : (Lib.itoa n).length ≤ 20 := by
  unfold Lib.itoa
  split
  · have := decDigitsP_len 19 n.natAbs (by decide) (by omega)
    simp; omega
  · have := decDigitsP_len 19 n.toNat (by decide) (by omega)
    omega

/-- bytes as strings -/
def baL (l : List UInt8) : ByteArray := ⟨l.toArray⟩
def strR (l : List (List UInt8)) : List Value := l.map fun b => .string (baL b)
theorem strR_snoc (l : List (List UInt8)) (b : List UInt8) : strR (l ++ [b]) = strR l ++ [.string (baL b)] := by simp [strR]
theorem strR_app (l m : List (List UInt8)) : strR (l ++ m) = strR l ++ strR m := by simp [strR]
theorem strR_len (l : List (List UInt8)) : (strR l).length = l.length := by simp [strR]
theorem strR_one (l : List (List UInt8)) : ∀ u ∈ strR l, u.oneCell' = true := by
  intro u hu
  obtain ⟨s, _, rfl⟩ := List.mem_map.1 hu
  rfl
theorem info_strR : (Tryz.prog.info? 9).map (fun i => (i.zero, i.size, i.bytes)) = some (some (.string ⟨#[]⟩), 1, 16) := by kernel_rfl
theorem owns_capR {w : World} {base : Nat} {e : TypeId} {sz n cap : Nat} {ad : Option Addr} {xs : List Value} (h : w.ownsRow base e sz (.slice ad n cap) n xs) : n ≤ cap := by
  rcases h.2 with ⟨h1, h0⟩ | ⟨g, cap', cur, hv, _, _, hn, _⟩
  · omega
  · cases hv; exact hn
theorem joinR {w : World} {base g cap : Nat} {l : List (List UInt8)} {sep : List UInt8} (h : w.ownsRow base 9 1 (.slice (some ⟨g, 0, none⟩) l.length cap) l.length (strR l)) (hg : g < w.heap.size) (hc : l.length ≤ cap) (hk : l.length ≤ 140737488355328)
    (hj : (Lib.join l sep).length ≤ 140737488355328) :
    Calls Tryz.prog 90 #[.slice (some ⟨g, 0, none⟩) l.length cap, .string (baL sep)] w fun e w' => e = .returned (.string (baL (Lib.join l sep))) ∧ Below w.heap.size w w' := by
  have hl : (l.map baL).length = l.length := by simp
  have hm : (l.map baL).map (·.data.toList) = l := by rw [List.map_map]; simp [Function.comp_def, baL]
  have := Tryz.strings_Join g 0 cap (l.map baL) (baL sep) w (fun j z hz => by
    have hj := (List.getElem?_eq_some_iff.1 hz).1
    rw [hl] at hj
    rw [Nat.zero_add, h.cellAt _ (by omega)]
    unfold strR
    rw [List.getElem?_map] at hz ⊢
    cases hb : l[j]? with
    | none => rw [hb] at hz; cases hz
    | some b => rw [hb] at hz; cases hz; rfl) hg (by rw [hl]; exact hk) (by rw [hl]; exact hc) (by rw [hm]; exact hj)
  rw [hl, hm] at this
  exact this
theorem joinR_len (l : List (List UInt8)) (sep : List UInt8) (n : Nat) (h : ∀ p ∈ l, p.length ≤ n) : (Lib.join l sep).length ≤ l.length * (n + sep.length) := by
  cases l with
  | nil => simp [Lib.join]
  | cons p r =>
    have H : ∀ r : List (List UInt8), (∀ q ∈ r, q.length ≤ n) → (Lib.joinTail sep r).length ≤ r.length * (n + sep.length) := by
      intro r
      induction r with
      | nil => intro _; simp [Lib.joinTail]
      | cons q t ih =>
        intro hr
        have h1 := hr q (by simp)
        have h2 := ih (fun x hx => hr x (List.mem_cons_of_mem _ hx))
        simp only [Lib.joinTail, List.map_cons, List.flatten_cons, List.length_append, List.length_cons, Nat.add_mul, Nat.one_mul] at h2 ⊢
        omega
    have h1 := h p (by simp)
    have h2 := H r (fun x hx => h x (List.mem_cons_of_mem _ hx))
    rw [Lib.join_cons]
    simp only [List.length_append, List.length_cons, Nat.add_mul, Nat.one_mul]
    omega

end Go.Proofs.YtkkoooagamadjaaGreatDoor

namespace Go.Proofs.YtkkoooagamadjaaGreatDoor
open Go.RowKit

/-- a row of strings in memory of its own -/
def SR (W : World) (base : Nat) (v : Value) (p : Nat) (L : List (List UInt8)) : Prop := L.length = p ∧ W.ownsRow base 9 1 v p (strR L)
theorem SR.nil (W : World) (base : Nat) : SR W base (.slice none 0 0) 0 [] := ⟨rfl, World.ownsRow_nil _ _ _ _⟩
theorem SR.below {W W' : World} {base p : Nat} {v : Value} {L : List (List UInt8)} (h : SR W base v p L) (hb : Below W.heap.size W W') : SR W' base v p L := ⟨h.1, owns_below h.2 hb⟩
theorem SR.app {W : World} {base p : Nat} {v : Value} {L : List (List UInt8)} (h : SR W base v p L) (bs : List (List UInt8)) (q : Nat) (hq : bs.length = q) (cs : Array Value) (hcs : cs.toList = strR bs) (ty : TypeId) (hb : base ≤ W.heap.size) (hl : p + q ≤ 100000) :
    ∃ x y w', (Builtin.append_ #[114, 114] ty #[v, .slice (some ⟨W.heap.size, 0, none⟩) q q]).run Tryz.prog (W.alloc (.cells cs 9)) = .ok (.slice x (p + q) y) w' ∧ SR w' base (.slice x (p + q) y) (p + q) (L ++ bs) ∧ Below base W w' ∧ (W.alloc (.cells cs 9)).grownBy w' v.ownBlock := by
  have hba : Below W.heap.size W (W.alloc (.cells cs 9)) := (Below.refl _ W).alloc (Nat.le_refl _) _
  have ha := h.below hba
  have hrd : RdK (W.alloc (.cells cs 9)) 1 (.slice (some ⟨W.heap.size, 0, none⟩) q q) q (strR bs) := by
    refine ⟨_, _, rfl, by rw [strR_len, hq, Nat.mul_one], .inr ⟨W.heap.size, 0, rfl, by simp, fun t x hx => ?_⟩⟩
    rw [World.cell?_alloc_at _ _ _ _ (by simp), Nat.zero_add, ← Array.getElem?_toList, hcs]
    exact hx
  obtain ⟨v', w', hrun, ho, hg⟩ := appK_run (P := Tryz.prog) _ 114 ty 9 (.string ⟨#[]⟩) 1 16 base Tryz.underlying114 info_strR rfl (by decide) (by decide) v p (strR L) ha.2 _ q (strR bs) hrd (strR_one bs) (by omega) (Nat.le_trans hb hba.size)
  obtain ⟨x, y, hv⟩ := owns_len ho
  subst hv
  refine ⟨x, y, w', hrun, ⟨by rw [List.length_append, h.1, hq], by rw [strR_app]; exact ho⟩, ?_⟩
  exact ⟨(hba.mono hb).grown hg (Nat.le_trans hb hba.size) (fun k hk => (ha.2.lt k hk).1), hg⟩

theorem SR.join {W : World} {base p y : Nat} {x : Option Addr} {L : List (List UInt8)} (h : SR W base (.slice x p y) p L) (sep : List UInt8) (hp : p ≤ 100000) (hj : (Lib.join L sep).length ≤ 140737488355328) :
    Calls Tryz.prog 90 #[.slice x p y, .string (baL sep)] W fun e w' => e = .returned (.string (baL (Lib.join L sep))) ∧ Below W.heap.size W w' := by
  obtain ⟨hl, ho⟩ := h
  by_cases h0 : p = 0
  · subst h0
    have : L = [] := List.eq_nil_of_length_eq_zero hl
    subst this
    refine (Tryz.strings_Join_none x y (baL sep) W).mono ?_
    rintro e w' ⟨rfl, rfl⟩
    exact ⟨rfl, Below.refl _ _⟩
  · obtain ⟨g, cap, e, _, hg⟩ := owns_shape ho (by omega)
    simp only [Value.slice.injEq] at e
    obtain ⟨rfl, -, rfl⟩ := e
    have hc := owns_capR ho
    subst hl
    exact joinR ho hg hc (by omega) hj

theorem ba_catP (a b : List UInt8) : (⟨a.toArray⟩ : ByteArray) ++ ⟨b.toArray⟩ = ⟨(a ++ b).toArray⟩ := by
  apply ByteArray.ext; simp
theorem cls_cat (x y : Int) : (⟨(Lib.itoa x).toArray⟩ : ByteArray) ++ ⟨#[58]⟩ ++ ⟨(Lib.itoa y).toArray⟩ = baL (clsB (x, y)) := by
  rw [show (⟨#[58]⟩ : ByteArray) = ⟨([58] : List UInt8).toArray⟩ from rfl, ba_catP, ba_catP]
  simp [baL, clsB]
theorem baP_size (a : List UInt8) : (⟨a.toArray⟩ : ByteArray).size = a.length := by show a.toArray.size = a.length; simp

/-- what is told of a class -/
def stepP (gl : List Int) (k : Nat) (c : Int × Int) : List (List UInt8) := (if gl.length < k ∧ 0 < k then [barB] else []) ++ ([clsB c] ++ (if k < gl.length then [Lib.itoa (gl.getD k 0)] else []))
theorem clsP_snoc (gl : List Int) : ∀ (l : List (Int × Int)) (j : Nat) (c : Int × Int), clsP gl j (l ++ [c]) = clsP gl j l ++ stepP gl (j + l.length) c
  | [], j, c => by simp [clsP, stepP]
  | d :: l, j, c => by
    simp only [List.cons_append, clsP, clsP_snoc gl l (j + 1) c, List.append_assoc, List.length_cons]
    rw [show j + 1 + l.length = j + (l.length + 1) by omega]
theorem clsP_take (gl : List Int) (cl : List (Int × Int)) (k : Nat) (c : Int × Int) (h : cl[k]? = some c) : clsP gl 0 (cl.take (k + 1)) = clsP gl 0 (cl.take k) ++ stepP gl k c := by
  have hk := (List.getElem?_eq_some_iff.1 h).1
  rw [List.take_add_one, h]
  show clsP gl 0 (cl.take k ++ [c]) = _
  rw [clsP_snoc, List.length_take, Nat.zero_add, Nat.min_eq_left (by omega)]
theorem restP_take (l : List Int) (k : Nat) (g : Int) (h : l[k]? = some g) : restP (l.take (k + 1)) = restP (l.take k) ++ [barB, Lib.itoa g] := by
  rw [List.take_add_one, h]
  simp [restP]

theorem zoneP_small (cl : List (Int × Int)) (gl : List Int) (hI : I64 (cl, gl)) : ∀ p ∈ zoneP cl gl, p.length ≤ 41 := by
  have hg : ∀ g ∈ gl, (Lib.itoa g).length ≤ 20 := fun g hg => itoaP_len g (hI.2 g hg)
  have hcl : ∀ c ∈ cl, (clsB c).length ≤ 41 := fun c hc => by
    have h1 := itoaP_len c.1 (hI.1 c hc).1
    have h2 := itoaP_len c.2 (hI.1 c hc).2
    simp only [clsB, List.length_append, List.length_cons]; omega
  have H : ∀ (l : List (Int × Int)) (k : Nat), (∀ c ∈ l, (clsB c).length ≤ 41) → ∀ p ∈ clsP gl k l, p.length ≤ 41 := by
    intro l
    induction l with
    | nil => intro k _ p hp; cases hp
    | cons c r ih =>
      intro k hc p hp
      simp only [clsP, List.mem_append, List.mem_singleton] at hp
      rcases hp with hp | rfl | hp | hp
      · split at hp
        · rw [List.mem_singleton] at hp; subst hp; decide
        · cases hp
      · exact hc c (by simp)
      · split at hp
        · rename_i hk
          rw [List.mem_singleton] at hp; subst hp
          have := hg (gl.getD k 0) (by rw [List.getD_eq_getElem?_getD, List.getElem?_eq_getElem hk]; exact List.getElem_mem hk)
          omega
        · cases hp
      · exact ih (k + 1) (fun c h => hc c (List.mem_cons_of_mem _ h)) p hp
  intro p hp
  rcases List.mem_append.1 hp with hp | hp
  · exact H cl 0 hcl p hp
  · unfold restP at hp
    obtain ⟨g, hgm, hp⟩ := List.mem_flatMap.1 hp
    have := hg g (List.mem_of_mem_drop hgm)
    simp only [List.mem_cons, List.not_mem_nil, or_false] at hp
    rcases hp with rfl | rfl
    · decide
    · omega
theorem zoneP_len (cl : List (Int × Int)) (gl : List Int) : (zoneP cl gl).length ≤ 3 * cl.length + 2 * gl.length := by
  have H : ∀ (l : List (Int × Int)) (k : Nat), (clsP gl k l).length ≤ 3 * l.length := by
    intro l
    induction l with
    | nil => intro k; simp [clsP]
    | cons c r ih =>
      intro k
      have := ih (k + 1)
      simp only [clsP, List.length_append, List.length_cons, List.length_nil]
      split <;> split <;> simp only [List.length_cons, List.length_nil] <;> omega
  have h1 := H cl 0
  have h2 : ∀ l : List Int, (restP l).length = 2 * l.length := by
    intro l
    induction l with
    | nil => rfl
    | cons g r ih => simp only [restP, List.flatMap_cons, List.length_append, List.length_cons, List.length_nil] at *; omega
  have h3 := h2 (gl.drop cl.length)
  rw [List.length_drop] at h3
  unfold zoneP
  rw [List.length_append]
  omega
theorem zoneS_size (z : Zn) (hI : I64 z) (h1 : z.1.length ≤ 1000) (h2 : z.2.length ≤ 1000) : (zoneS z).size ≤ 1000000 := by
  have h3 := zoneP_len z.1 z.2
  have h4 := joinR_len (zoneP z.1 z.2) [32] 41 (zoneP_small z.1 z.2 hI)
  have h5 : (zoneS z).size = (Lib.join (zoneP z.1 z.2) [32]).length := by unfold zoneS zoneTx; exact baP_size _
  rw [h5]
  simp only [List.length_cons, List.length_nil] at h4
  omega

end Go.Proofs.YtkkoooagamadjaaGreatDoor
