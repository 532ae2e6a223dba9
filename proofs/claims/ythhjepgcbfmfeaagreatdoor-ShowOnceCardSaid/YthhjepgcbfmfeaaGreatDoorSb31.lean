/- Contract of show's put. Contract of show's Formula. What Whole hands back, of a formula or of none. Plain: bytes of texts; steps of the token reader. -/
import Derived.Test.YthhjepgcbfmfeaaGreatDoorSb30
import Derived.Deep.RegionLaw
import Derived.Test.YthhjepgcbfmfeaaGreatDoorSb22
import Derived.Test.YthhjepgcbfmfeaaGreatDoorSb11

namespace Go.Proofs.YthhjepgcbfmfeaaGreatDoor
open Go.RowKit

theorem info_held : (Tryz.prog.info? 47).map (fun i => (i.zero, i.size, i.bytes)) = some (some (.agg #[.int .i64 0, .string ⟨#[]⟩]), 2, 24) := by kernel_rfl
def heldCells (f : Fm) : List Value := [.int .i64 (tightN f.op), .string (textF f)]
def heldFlat (R : List Fm) : List Value := R.reverse.flatMap heldCells
theorem heldFlat_cons (f : Fm) (R : List Fm) : heldFlat (f :: R) = heldFlat R ++ heldCells f := by simp [heldFlat]
theorem heldFlat_len (R : List Fm) : (heldFlat R).length = R.length * 2 := by
  induction R with
  | nil => rfl
  | cons f R ih => rw [heldFlat_cons, List.length_append, ih]; simp [heldCells]; omega
theorem owns_shrink2 {w : World} {base : Nat} {e : TypeId} {g n cap m : Nat} {xs ys : List Value} (h : w.ownsRow base e 2 (.slice (some ⟨g, 0, none⟩) n cap) n (xs ++ ys)) (hm : m ≤ n) (hx : xs.length = m * 2) : w.ownsRow base e 2 (.slice (some ⟨g, 0, none⟩) m cap) m xs := by
  rcases h.2 with ⟨h0, _⟩ | ⟨g', cap', cur, hv, hb, hg, hn, hc, hs, ht⟩
  · cases h0
  · cases hv
    refine ⟨by omega, .inr ⟨g, cap, cur, rfl, hb, hg, by omega, hc, hs, ?_⟩⟩
    have e : (xs ++ ys).take (m * 2) = xs := by rw [List.take_append_of_le_length (by omega), List.take_of_length_le (by omega)]
    rw [← e, ← ht, List.take_take, Nat.min_eq_left (by omega)]
theorem row_lt {w : World} {base : Nat} {e : TypeId} {g n cap sz : Nat} {xs : List Value} (h : w.ownsRow base e sz (.slice (some ⟨g, 0, none⟩) n cap) n xs) : n ≤ cap ∧ cap ≤ maxLen ∧ g < w.heap.size ∧ base ≤ g := by
  rcases h.2 with ⟨h0, _⟩ | ⟨g', cap', cur, hv, hb, hg, hn, hc, hs, ht⟩
  · cases h0
  · cases hv; exact ⟨hn, hc, (Array.getElem?_eq_some_iff.1 hg).1, hb⟩

/-- what put leaves -/
def PutPost (base n : Nat) (xs : List Value) (ok : Bool) (w : World) (e : Ending) (w' : World) : Prop :=
  ∃ v, e = .returned (.tuple #[v, .bool ok]) ∧ w'.ownsRow base 47 2 v n xs ∧ Below base w w'

theorem named_high {x : It} (h : 13 ≤ x.op) : namedB x = true := by
  unfold namedB; rw [if_neg (by omega), if_neg (by omega), if_neg (by omega)]
theorem arN_two {op : Int} (h : arN op = 2) : 16 ≤ op := by
  unfold arN at h
  split at h
  · omega
  split at h
  · omega
  split at h
  · omega
  · omega
theorem arN_one {op : Int} (h : arN op = 1) : 15 ≤ op := by
  unfold arN at h
  split at h
  · omega
  split at h
  · omega
  split at h
  · omega
  · omega

set_option maxRecDepth 100000 in
set_option maxHeartbeats 2000000 in
theorem put_leaf {w : World} (ht : Tabs w) {base n : Nat} {v : Value} {xs : List Value} (h : w.ownsRow base 47 2 v n xs) (hB : base ≤ w.heap.size) (hn : n ≤ 64) (x : It) (hs : Short x) (hop : arN x.op = 0) :
    Calls Tryz.prog 12 #[v, itVal x] w (PutPost base (n + 1) (xs ++ [.int .i64 4, .string (atomTx x)]) (namedB x) w) := by
  obtain ⟨ad, cap, hv⟩ := owns_len h
  subst hv
  obtain ⟨W0, hW0⟩ : ∃ W, w.alloc (.cells #[.int .i64 x.op, .string x.ln, .int .i64 x.lnum, .string x.rn, .int .i64 x.rnum, .string x.name, .string x.user, .int .i64 x.line, .int .i64 x.col] 39) = W := ⟨_, rfl⟩
  have hA : Blk W0 w.heap.size #[.int .i64 x.op, .string x.ln, .int .i64 x.lnum, .string x.rn, .int .i64 x.rnum, .string x.name, .string x.user, .int .i64 x.line, .int .i64 x.col] 39 := by rw [← hW0]; exact Blk.new w _ _
  have hb0 : Below w.heap.size w W0 := by rw [← hW0]; exact (Below.refl _ w).alloc (Nat.le_refl _) _
  have HB0 := Lib.hid (hb0.mono hB)
  have HT0 := Lib.hid (ht.keep hb0)
  have HR0 := Lib.hid (owns_below h hb0)
  have HSZ := Lib.hid (Nat.le_trans hB hb0.size)
  have HC := Lib.hid (arity_all W0 x.op)
  have HA := Lib.hid (sh_atom_any HT0.out x hs hop)
  have HOP := Lib.hid hop
  obtain ⟨a0, a1, a2, a3, a4, a5, a6, a7, a8⟩ := hA.nine
  unfold itVal at HA ⊢
  obtain ⟨tx, htx⟩ : ∃ s, atomTx x = s := ⟨_, rfl⟩
  obtain ⟨ok, hok⟩ : ∃ s, namedB x = s := ⟨_, rfl⟩
  rw [htx, hok] at HA ⊢
  clear h hop ht hA hb0 hs htx hok
  go_enter Tryz.func12, Tryz.ntmps12
  go_upto_region 1 with fail
  clear hW0
  go_wp2_with fail
  refine HC.out.mono ?_
  rw [HOP.out]
  rintro e w2 ⟨rfl, hw⟩
  rw [hw]
  clear hw
  go_wp2_with fail
  refine HA.out.mono ?_
  rintro e w3 ⟨rfl, hb3⟩
  have HB3 := Lib.hid (HB0.out.trans (hb3.mono HSZ.out))
  have HR3 := Lib.hid (owns_below HR0.out hb3)
  have hsz3 : base ≤ w3.heap.size := Nat.le_trans HSZ.out hb3.size
  clear hb3 a0 a1 a2 a3 a4 a5 a6 a7 a8
  go_wp2_with (at_builtin; refine app1 _ #[.int .i64 4, .string tx] rfl _ _ 41 rfl base 47 (.agg #[.int .i64 0, .string ⟨#[]⟩]) 2 24 Tryz.underlying41 info_held rfl (by decide) (by decide) _ _ _ rfl (by exact HR3.out) rfl (by simp) rfl (by simp [Value.oneCell']) (by omega) hsz3 ?_; intro v' w4 hown4 _ hbel)
  have HO := Lib.hid hown4; have HBL := Lib.hid (HB3.out.trans hbel)
  clear hown4 hbel
  go_wp2
  refine bodyPost_ret (v := .tuple #[v', .bool ok]) (by simp [results, Tryz.results12, go_sem]) rfl ?_
  exact ⟨_, rfl, HO.out, HBL.out⟩

def ldR1 : Op := Op.load 47 (Operand.tmp 28)
theorem ldR1_is : Op.load 47 (Operand.tmp 28) = ldR1 := rfl
attribute [local go_sem] ldR1

set_option maxRecDepth 100000 in
set_option maxHeartbeats 4000000 in
theorem put_one {w : World} (ht : Tabs w) {base n : Nat} {v : Value} {xs : List Value} {t : Int} {s : ByteArray} (h : w.ownsRow base 47 2 v (n + 1) (xs ++ [.int .i64 t, .string s])) (hx : xs.length = n * 2) (hB : base ≤ w.heap.size) (hn : n ≤ 64) (hsz : s.size ≤ 100000) (x : It) (hop : arN x.op = 1) :
    Calls Tryz.prog 12 #[v, itVal x] w (PutPost base (n + 1) (xs ++ [.int .i64 4, .string (signB x.op ++ sp8 ++ inF t 4 s)]) (namedB x) w) := by
  obtain ⟨g, cap, hv, hg, hgs⟩ := owns_shape h (by omega)
  subst hv
  have hnm := named_high (x := x) (by have := arN_one hop; omega)
  rw [hnm]
  clear hnm
  obtain ⟨W0, hW0⟩ : ∃ W, w.alloc (.cells #[.int .i64 x.op, .string x.ln, .int .i64 x.lnum, .string x.rn, .int .i64 x.rnum, .string x.name, .string x.user, .int .i64 x.line, .int .i64 x.col] 39) = W := ⟨_, rfl⟩
  have hA : Blk W0 w.heap.size #[.int .i64 x.op, .string x.ln, .int .i64 x.lnum, .string x.rn, .int .i64 x.rnum, .string x.name, .string x.user, .int .i64 x.line, .int .i64 x.col] 39 := by rw [← hW0]; exact Blk.new w _ _
  have hb0 : Below w.heap.size w W0 := by rw [← hW0]; exact (Below.refl _ w).alloc (Nat.le_refl _) _
  have h0 := owns_below h hb0
  have HB0 := Lib.hid (hb0.mono hB)
  have HT0 := Lib.hid (ht.keep hb0)
  have HSZ := Lib.hid (Nat.le_trans hB hb0.size)
  have HC := Lib.hid (arity_all W0 x.op)
  have HS := Lib.hid (sh_sign_any (show Tabs W0.drew from ⟨HT0.out.mx, HT0.out.pow, HT0.out.spc⟩) x.op)
  have HI := Lib.hid (fun (W : World) => in_any W t 4 s (by omega))
  have HOP := Lib.hid hop
  obtain ⟨sg, hsg⟩ : ∃ q, signB x.op = q := ⟨_, rfl⟩
  have hsgl : sg.size ≤ 8 := by rw [← hsg]; exact signB_size x.op
  obtain ⟨ia, hia⟩ : ∃ q, inF t 4 s = q := ⟨_, rfl⟩
  have hial : ia.size ≤ 100002 := by rw [← hia]; have := inF_size t 4 s; omega
  rw [hsg] at HS
  rw [hia] at HI
  rw [hsg, hia]
  have hc0 : W0.cell? ⟨g, n * 2, none⟩ = some (.int .i64 t) := by
    have h1 := World.ownsRow.cellAt h0 (n * 2) (by omega)
    rw [h1, List.getElem?_append_right (by omega), show n * 2 - xs.length = 0 by omega]; rfl
  have hc1 : W0.cell? ⟨g, n * 2 + 1, none⟩ = some (.string s) := by
    have h1 := World.ownsRow.cellAt h0 (n * 2 + 1) (by omega)
    rw [h1, List.getElem?_append_right (by omega), show n * 2 + 1 - xs.length = 1 by omega]; rfl
  obtain ⟨hnc, hcm, hg0, _⟩ := row_lt h0
  have HR0 := Lib.hid (owns_shrink2 h0 (show n ≤ n + 1 by omega) hx)
  have n1 : ¬ 9223372036854775807 < sg.size + 1 := by omega
  have n2 : ¬ 9223372036854775807 < sg.size + 1 + ia.size := by omega
  have hz : (0 : Int) ≤ (n : Int) := by omega
  have hzc : (n : Int) ≤ (cap : Int) := by omega
  have hz1 : (n : Int) < (n : Int) + 1 := by omega
  have hw0 : IntKind.i64.wrap (n : Int) = n := IntWalk.i64_in _ ⟨by omega, by omega⟩
  have hw1 : IntKind.i64.wrap ((n : Int) + 1 - 1) = n := by rw [show (n : Int) + 1 - 1 = n by omega]; exact hw0
  obtain ⟨i0, hi0, hz0, hz1, hz2⟩ := info_parts info_held
  have HIP := Lib.hid (And.intro hi0 (And.intro hz0 (And.intro hz1 hz2)))
  have HK0 := Lib.hid hA
  obtain ⟨a0, a1, a2, a3, a4, a5, a6, a7, a8⟩ := hA.nine
  have d0 := hA.drew.nine.1
  unfold itVal
  clear h h0 hop ht hA hb0 hsg hia hi0 hz0 hz1 hz2 hsgl hial
  go_enter Tryz.func12, Tryz.ntmps12
  go_upto_region 1 with fail
  clear hW0
  go_wp2_with fail
  refine HC.out.mono ?_
  rw [HOP.out]
  rintro e w2 ⟨rfl, hw⟩
  rw [hw]
  clear hw
  go_wp2
  rw [ldR1_is]
  (go_region_held3 (fun w' => w'.cell? ⟨w.heap.size, 0, none⟩ = some (.int .i64 x.op))
      (first | assumption | go_keep)
      (first
        | (go_simp; go_at_call 19; (with_reducible refine HS.out.mono ?_)
           rintro e w3 ⟨rfl, hb3⟩
           have HB3 := Lib.hid (HB0.out.drew.trans (hb3.mono HSZ.out))
           have e0 := (HK0.out.drew.keep hb3).nine.1
           have hc3 := (hb3.cell (p := ⟨g, n * 2, none⟩) hg0).trans hc0
           have hc4 := (hb3.cell (p := ⟨g, n * 2 + 1, none⟩) hg0).trans hc1
           have HR3 := Lib.hid (owns_below HR0.out.drew hb3)
           have HK3 := Lib.hid (HK0.out.drew.keep hb3)
           have hs3 := hb3.size
           clear hb3)
        | (go_simp; go_at_call 20; (with_reducible refine (HI.out _).mono ?_)
           rintro e w4 ⟨rfl, hb4⟩
           have hB3 : base ≤ w3.heap.size := Nat.le_trans HSZ.out hs3
           have HB4 := Lib.hid (HB3.out.trans (hb4.mono hB3))
           have f0 := (HK3.out.keep hb4).nine.1
           have HK4 := Lib.hid (HK3.out.keep hb4)
           have hB4 : base ≤ w4.heap.size := Nat.le_trans hB3 hb4.size
           have HR4 := Lib.hid (owns_below HR3.out hb4)
           clear hb4)
        | (refine step_append_lies _ (by rfl) _ _ _ (by rfl) base 47 i0 _ 2 24 Tryz.underlying41 HIP.out.1 HIP.out.2.1 HIP.out.2.2.1 HIP.out.2.2.2 rfl (by omega) _ n xs (by rfl) (World.ownsRow.alloc HR4.out _) ⟨w4.heap.size, 0, none⟩ 1 1 [.int .i64 4, .string (sg ++ (⟨#[32]⟩ : ByteArray) ++ ia)] (by rfl) (by rfl) (World.news_of_block (cs := #[.int .i64 4, .string (sg ++ (⟨#[32]⟩ : ByteArray) ++ ia)]) (t := 47) (fr := (0, 0)) (heap_at_sizeS _ _ _ (by simp))) (by simp [Value.oneCell']) (by omega) (by unfold maxLen; omega) (by omega) (by simp; omega) (w4.heap.size + 1) (by simp) ?_
           intro g3 cap3 w5 hown3 hgrow hat hlt3
           have HO := Lib.hid hown3
           have g0 := ((HK4.out.alloc (.cells #[.int .i64 4, .string (sg ++ (⟨#[32]⟩ : ByteArray) ++ ia)] 47)).grown hgrow (by simp [Value.ownBlock]; omega)).nine.1
           have HBL := Lib.hid ((HB4.out.alloc (show base ≤ w4.heap.size by omega) _).grown hgrow (by simp; omega) (fun k e => (HR4.out.lt k e).1))
           clear hown3 hgrow hat)))
  all_goals
    go_wp2
    refine bodyPost_ret (v := .tuple #[.slice (some ⟨g3, 0, none⟩) (n + 1) cap3, .bool true]) (by simp [results, Tryz.results12, go_sem]) rfl ?_
    exact ⟨_, rfl, HO.out, HBL.out⟩

def ldR2 : Op := Op.load 47 (Operand.tmp 46)
theorem ldR2_is : Op.load 47 (Operand.tmp 46) = ldR2 := rfl
def ldR3 : Op := Op.load 47 (Operand.tmp 51)
theorem ldR3_is : Op.load 47 (Operand.tmp 51) = ldR3 := rfl
attribute [local go_sem] ldR2 ldR3

set_option maxRecDepth 100000 in
set_option maxHeartbeats 4000000 in
theorem put_two {w : World} (ht : Tabs w) {base n : Nat} {v : Value} {xs : List Value} {t u : Int} {s r : ByteArray} (h : w.ownsRow base 47 2 v (n + 2) (xs ++ [.int .i64 t, .string s, .int .i64 u, .string r])) (hx : xs.length = n * 2) (hB : base ≤ w.heap.size) (hn : n ≤ 64) (hsz : s.size ≤ 100000) (hrz : r.size ≤ 100000) (x : It) (hop : arN x.op = 2) :
    Calls Tryz.prog 12 #[v, itVal x] w (PutPost base (n + 1) (xs ++ [.int .i64 (tightN x.op), .string (twoTx x.op t s u r)]) (namedB x) w) := by
  obtain ⟨g, cap, hv, hg, hgs⟩ := owns_shape h (by omega)
  subst hv
  have hnm := named_high (x := x) (by have := arN_two hop; omega)
  rw [hnm]
  clear hnm
  obtain ⟨W0, hW0⟩ : ∃ W, w.alloc (.cells #[.int .i64 x.op, .string x.ln, .int .i64 x.lnum, .string x.rn, .int .i64 x.rnum, .string x.name, .string x.user, .int .i64 x.line, .int .i64 x.col] 39) = W := ⟨_, rfl⟩
  have hA : Blk W0 w.heap.size #[.int .i64 x.op, .string x.ln, .int .i64 x.lnum, .string x.rn, .int .i64 x.rnum, .string x.name, .string x.user, .int .i64 x.line, .int .i64 x.col] 39 := by rw [← hW0]; exact Blk.new w _ _
  have hb0 : Below w.heap.size w W0 := by rw [← hW0]; exact (Below.refl _ w).alloc (Nat.le_refl _) _
  have h0 := owns_below h hb0
  have HB0 := Lib.hid (hb0.mono hB)
  have HT0 := Lib.hid (ht.keep hb0)
  have HSZ := Lib.hid (Nat.le_trans hB hb0.size)
  have HC := Lib.hid (arity_all W0 x.op)
  have HS := Lib.hid (two_any (show Tabs W0.drew from ⟨HT0.out.mx, HT0.out.pow, HT0.out.spc⟩) x.op hop t u s r hsz hrz)
  have HOP := Lib.hid hop
  obtain ⟨tx, htx⟩ : ∃ q, twoTx x.op t s u r = q := ⟨_, rfl⟩
  obtain ⟨tg, htg⟩ : ∃ q, tightN x.op = q := ⟨_, rfl⟩
  rw [htx, htg] at HS
  rw [htx, htg]
  have hc0 : W0.cell? ⟨g, n * 2, none⟩ = some (.int .i64 t) := by
    have h1 := World.ownsRow.cellAt h0 (n * 2) (by omega)
    rw [h1, List.getElem?_append_right (by omega), show n * 2 - xs.length = 0 by omega]; rfl
  have hc1 : W0.cell? ⟨g, n * 2 + 1, none⟩ = some (.string s) := by
    have h1 := World.ownsRow.cellAt h0 (n * 2 + 1) (by omega)
    rw [h1, List.getElem?_append_right (by omega), show n * 2 + 1 - xs.length = 1 by omega]; rfl
  have hc2 : W0.cell? ⟨g, (n + 1) * 2, none⟩ = some (.int .i64 u) := by
    have h1 := World.ownsRow.cellAt h0 ((n + 1) * 2) (by omega)
    rw [h1, List.getElem?_append_right (by omega), show (n + 1) * 2 - xs.length = 2 by omega]; rfl
  have hc3 : W0.cell? ⟨g, (n + 1) * 2 + 1, none⟩ = some (.string r) := by
    have h1 := World.ownsRow.cellAt h0 ((n + 1) * 2 + 1) (by omega)
    rw [h1, List.getElem?_append_right (by omega), show (n + 1) * 2 + 1 - xs.length = 3 by omega]; rfl
  obtain ⟨hnc, hcm, hg0, _⟩ := row_lt h0
  have HR0 := Lib.hid (owns_shrink2 h0 (show n ≤ n + 2 by omega) hx)
  have hz : (0 : Int) ≤ (n : Int) := by omega
  have hzc : (n : Int) ≤ (cap : Int) := by omega
  have hz1 : (n : Int) < (n : Int) + 2 := by omega
  have hw0 : IntKind.i64.wrap (n : Int) = n := IntWalk.i64_in _ ⟨by omega, by omega⟩
  have hw1 : IntKind.i64.wrap ((n : Int) + 2 - 2) = n := by rw [show (n : Int) + 2 - 2 = n by omega]; exact hw0
  have hw2 : IntKind.i64.wrap ((n : Int) + 2 - 1) = (n : Int) + 1 := by rw [show (n : Int) + 2 - 1 = (n : Int) + 1 by omega]; exact IntWalk.i64_in _ ⟨by omega, by omega⟩
  have hw3 : IntKind.i64.wrap ((n : Int) + 1) = (n : Int) + 1 := IntWalk.i64_in _ ⟨by omega, by omega⟩
  have hz2 : (n : Int) + 1 < (n : Int) + 2 := by omega
  have hz3 : (0 : Int) ≤ (n : Int) + 1 := by omega
  have ht2 : ((n : Int) + 1).toNat = n + 1 := by omega
  obtain ⟨i0, hi0, hz0, hz1, hz2⟩ := info_parts info_held
  have HIP := Lib.hid (And.intro hi0 (And.intro hz0 (And.intro hz1 hz2)))
  have HK0 := Lib.hid hA
  obtain ⟨a0, a1, a2, a3, a4, a5, a6, a7, a8⟩ := hA.nine
  have d0 := hA.drew.nine.1
  unfold itVal
  clear h h0 hop ht hA hb0 htx htg hi0 hz0 hz1 hz2
  go_enter Tryz.func12, Tryz.ntmps12
  go_upto_region 1 with fail
  clear hW0
  go_wp2_with fail
  refine HC.out.mono ?_
  rw [HOP.out]
  rintro e w2 ⟨rfl, hw⟩
  rw [hw]
  clear hw
  go_wp2
  rw [ldR2_is, ldR3_is]
  (go_region_held3 (fun w' => w'.cell? ⟨w.heap.size, 0, none⟩ = some (.int .i64 x.op))
      (first | assumption | go_keep)
      (first
        | (go_simp; go_at_call 21; (with_reducible refine HS.out.mono ?_)
           rintro e w4 ⟨rfl, hb4⟩
           have HB4 := Lib.hid (HB0.out.drew.trans (hb4.mono HSZ.out))
           have e0 := (HK0.out.drew.keep hb4).nine.1
           have HR4 := Lib.hid (owns_below HR0.out.drew hb4)
           have HK4 := Lib.hid (HK0.out.drew.keep hb4)
           have hB4 : base ≤ w4.heap.size := Nat.le_trans HSZ.out hb4.size
           clear hb4)
        | (refine step_append_lies _ (by rfl) _ _ _ (by rfl) base 47 i0 _ 2 24 Tryz.underlying41 HIP.out.1 HIP.out.2.1 HIP.out.2.2.1 HIP.out.2.2.2 rfl (by omega) _ n xs (by rfl) (World.ownsRow.alloc HR4.out _) ⟨w4.heap.size, 0, none⟩ 1 1 [.int .i64 tg, .string tx] (by rfl) (by rfl) (World.news_of_block (cs := #[.int .i64 tg, .string tx]) (t := 47) (fr := (0, 0)) (heap_at_sizeS _ _ _ (by simp))) (by simp [Value.oneCell']) (by omega) (by unfold maxLen; omega) (by omega) (by simp; omega) (w4.heap.size + 1) (by simp) ?_
           intro g3 cap3 w5 hown3 hgrow hat hlt3
           have HO := Lib.hid hown3
           have g0 := ((HK4.out.alloc (.cells #[.int .i64 tg, .string tx] 47)).grown hgrow (by simp [Value.ownBlock]; omega)).nine.1
           have HBL := Lib.hid ((HB4.out.alloc (show base ≤ w4.heap.size by omega) _).grown hgrow (by simp; omega) (fun k e => (HR4.out.lt k e).1))
           clear hown3 hgrow hat)))
  all_goals
    go_wp2
    refine bodyPost_ret (v := .tuple #[.slice (some ⟨g3, 0, none⟩) (n + 1) cap3, .bool true]) (by simp [results, Tryz.results12, go_sem]) rfl ?_
    exact ⟨_, rfl, HO.out, HBL.out⟩

/-- the texts on a row are not too long -/
def SmallR (R : List Fm) : Prop := ∀ f ∈ R, (textF f).size ≤ 100000
/-- the row of texts -/
def HRow (w : World) (base : Nat) (v : Value) (R : List Fm) : Prop := w.ownsRow base 47 2 v R.length (heldFlat R)
theorem put_all {w : World} (ht : Tabs w) {base : Nat} {v : Value} {R S : List Fm} (h : HRow w base v R) (hB : base ≤ w.heap.size) (hn : R.length ≤ 64) (hsm : SmallR R) (x : It) (hs : Short x) (hp : pushF x R = some S) :
    Calls Tryz.prog 12 #[v, itVal x] w fun e w' => ∃ v', e = .returned (.tuple #[v', .bool (namedB x)]) ∧ HRow w' base v' S ∧ Below base w w' := by
  unfold pushF at hp
  split at hp
  · rename_i h0
    cases hp
    refine (put_leaf ht h hB hn x hs h0).mono fun e w' hh => ?_
    obtain ⟨v', he, ho, hb⟩ := hh
    refine ⟨v', he, ?_, hb⟩
    have e4 : tightN x.op = 4 := by
      have : x.op ≤ 14 := by
        unfold arN at h0
        split at h0
        · omega
        split at h0
        · omega
        split at h0
        · omega
        · omega
      unfold tightN; rw [if_neg (by omega), if_neg (by omega), if_neg (by omega)]
    unfold HRow
    rw [heldFlat_cons]
    show w'.ownsRow base _ 2 v' (R.length + 1) (heldFlat R ++ [.int .i64 (tightN x.op), .string (atomTx x)])
    rw [e4]; exact ho
  split at hp
  · rename_i h1
    match R, hp, h, hn, hsm with
    | f :: R, hp, h, hn, hsm =>
      cases hp
      unfold HRow at h
      rw [heldFlat_cons] at h
      refine (put_one ht h (heldFlat_len R) hB (by simp at hn; omega) (hsm f (by simp)) x h1).mono fun e w' hh => ?_
      obtain ⟨v', he, ho, hb⟩ := hh
      refine ⟨v', he, ?_, hb⟩
      have e4 : tightN x.op = 4 := by
        have : x.op = 15 ∨ 19 ≤ x.op := by
          unfold arN at h1
          split at h1
          · omega
          split at h1
          · omega
          split at h1
          · omega
          · omega
        unfold tightN; rw [if_neg (by omega), if_neg (by omega), if_neg (by omega)]
      unfold HRow
      rw [heldFlat_cons]
      show w'.ownsRow base _ 2 v' (R.length + 1) (heldFlat R ++ [.int .i64 (tightN x.op), .string (signB x.op ++ sp8 ++ inF (tightN f.op) 4 (textF f))])
      rw [e4]; exact ho
    | [], hp, _, _, _ => cases hp
  split at hp
  · rename_i h2
    match R, hp, h, hn, hsm with
    | g :: f :: R, hp, h, hn, hsm =>
      cases hp
      unfold HRow at h
      rw [heldFlat_cons, heldFlat_cons, List.append_assoc] at h
      refine (put_two ht h (heldFlat_len R) hB (by simp at hn; omega) (hsm f (by simp)) (hsm g (by simp)) x h2).mono fun e w' hh => ?_
      obtain ⟨v', he, ho, hb⟩ := hh
      refine ⟨v', he, ?_, hb⟩
      unfold HRow
      rw [heldFlat_cons]
      exact ho
    | [f], hp, _, _, _ => cases hp
    | [], hp, _, _, _ => cases hp
  · cases hp

end Go.Proofs.YthhjepgcbfmfeaaGreatDoor

namespace Go.Proofs.YthhjepgcbfmfeaaGreatDoor
open Go.RowKit

theorem formR_bad {O : List It} (h : chkN O ≠ 0) : formR O = (nil8, chkN O) := by unfold formR; rw [if_pos h]
theorem formR_unnamed {O : List It} (h : chkN O = 0) {x : It} (hx : x ∈ O) (hn : namedB x = false) : formR O = (nil8, 17) := by
  unfold formR
  rw [if_neg (by omega), if_pos]
  refine Bool.eq_false_iff.2 fun ha => ?_
  rw [List.all_eq_true] at ha
  rw [ha x hx] at hn; cases hn
theorem formR_ok {O : List It} (h : chkN O = 0) (hn : O.all namedB = true) {f : Fm} (hf : treeF O = some f) : formR O = (textF f, 0) := by
  unfold formR; rw [if_neg (by omega), if_neg (by rw [hn]; decide), hf]
theorem chk_tree {O : List It} (h : chkN O = 0) : ∃ f, treeF O = some f := by
  obtain ⟨_, _, f, hf⟩ := chk_ok h
  exact ⟨f, by rw [← hf]; exact treeF_of f⟩
theorem push_some {O : List It} {f : Fm} (hf : treeF O = some f) {k : Nat} {R : List Fm} {x : It} (hk : O[k]? = some x) (hP : buildF (O.drop k) R = buildF O []) : ∃ S, pushF x R = some S := by
  cases hp : pushF x R with
  | some S => exact ⟨S, rfl⟩
  | none => rw [treeF_none hk hP hp] at hf; cases hf
theorem smallR_of {O : List It} (hs : ∀ x ∈ O, Short x) (hl : O.length ≤ 64) {R : List Fm} {k : Nat} (hR : flats R = O.take k) : SmallR R := by
  intro f hf
  have hsub : ∀ x ∈ f.flat, x ∈ O := by
    intro x hx
    have : x ∈ flats R := by
      unfold flats
      exact List.mem_flatMap.2 ⟨f, List.mem_reverse.2 hf, hx⟩
    rw [hR] at this
    exact List.mem_of_mem_take this
  have hlen : f.flat.length ≤ 64 := by
    have h2 : (flats R).length ≤ 64 := by rw [hR, List.length_take]; omega
    have h3 : ∀ (S : List Fm), f ∈ S → f.flat.length ≤ (S.flatMap Fm.flat).length := by
      intro S hS
      induction S with
      | nil => cases hS
      | cons a S ih =>
        rw [List.flatMap_cons, List.length_append]
        rcases List.mem_cons.1 hS with rfl | h
        · omega
        · have := ih h; omega
    have := h3 R.reverse (List.mem_reverse.2 hf)
    have h4 : (flats R).length = (R.reverse.flatMap Fm.flat).length := rfl
    omega
  have := textF_size f (fun x hx => hs x (hsub x hx))
  omega
theorem take_all {O : List It} {k : Nat} {x : It} (h : (O.take k).all namedB = true) (hk : O[k]? = some x) (hx : namedB x = true) : (O.take (k + 1)).all namedB = true := by
  rw [List.take_add_one, hk, List.all_append, h]; simp [hx]
theorem take_flats {O : List It} {k : Nat} {x : It} {R S : List Fm} (h : flats R = O.take k) (hk : O[k]? = some x) (hp : pushF x R = some S) : flats S = O.take (k + 1) := by
  rw [pushF_flat hp, h, List.take_add_one, hk]; rfl

set_option maxRecDepth 100000 in
set_option maxHeartbeats 4000000 in
theorem formula_any {w : World} (ht : Tabs w) {v : Value} {O : List It} (h : ItIn w v O) (hs : ∀ x ∈ O, Short x) :
    Calls Tryz.prog 7 #[v] w fun e w' => e = .returned (.tuple #[.string (formR O).1, .int .i64 (formR O).2]) ∧ Below w.heap.size w w' := by
  obtain ⟨ad, cap, hv⟩ := h.len
  subst hv
  have HC := Lib.hid (check_all h)
  by_cases hc : chkN O = 0
  · obtain ⟨f, hf⟩ := chk_tree hc
    obtain ⟨hl0, hl64, _⟩ := chk_ok hc
    have HF := Lib.hid hf; have HCK := Lib.hid hc
    have HR := Lib.hid h; have HT := Lib.hid ht; have HSH := Lib.hid hs
    obtain ⟨tx, htx⟩ : ∃ t, (formR O).1 = t := ⟨_, rfl⟩
    obtain ⟨er, her⟩ : ∃ t, (formR O).2 = t := ⟨_, rfl⟩
    have HFR := Lib.hid (show formR O = (tx, er) by rw [← htx, ← her])
    rw [htx, her]
    rw [hc] at HC
    clear h hs ht hf hc htx her
    go_enter Tryz.func7, Tryz.ntmps7
    go_wp2_with fail
    refine HC.out.mono ?_
    rintro e w1 ⟨rfl, hb1⟩
    have HB1 := Lib.hid hb1
    clear hb1
    go_wp2
    go_loopw [5, 17] (fun rv i wr => ∃ (k : Nat) (R : List Fm), i = .int .i64 k ∧ k ≤ O.length ∧ R.length ≤ k ∧ Hid (buildF (O.drop k) R = buildF O [] ∧ flats R = O.take k ∧ (O.take k).all namedB = true ∧ HRow wr w.heap.size rv R ∧ Below w.heap.size w wr)) (fun _ i _ => O.length - (intOf i).toNat)
    case atStart => exact ⟨0, [], by go_num, by omega, by simp, rfl, by simp [flats], by simp, World.ownsRow_nil _ _ _ _, HB1.out⟩
    case round =>
      obtain ⟨k, R, rfl, hk, hnk, HALL⟩ := hrel
      obtain ⟨hP, hfl, hnm, hrow, hB⟩ := HALL.out
      by_cases hlt : k < O.length
      · obtain ⟨x, hx⟩ : ∃ x, O[k]? = some x := ⟨_, List.getElem?_eq_getElem hlt⟩
        have hxm : x ∈ O := List.mem_of_getElem? hx
        obtain ⟨S, hp⟩ := push_some HF.out hx hP
        obtain ⟨g, off, c1, hg, hgl, a0, a1, a2, a3, a4, a5, a6, a7, a8⟩ := (HR.out.keep hB).at hx
        simp only [Value.slice.injEq, true_and] at hg
        obtain ⟨rfl, rfl⟩ := hg
        have hwr : Below wr.heap.size wr (wr.alloc (.cells #[.int .i64 x.op, .string x.ln, .int .i64 x.lnum, .string x.rn, .int .i64 x.rnum, .string x.name, .string x.user, .int .i64 x.line, .int .i64 x.col] 39)) := (Below.refl _ _).alloc (Nat.le_refl _) _
        have hib : Blk (wr.alloc (.cells #[.int .i64 x.op, .string x.ln, .int .i64 x.lnum, .string x.rn, .int .i64 x.rnum, .string x.name, .string x.user, .int .i64 x.line, .int .i64 x.col] 39)) wr.heap.size #[.int .i64 x.op, .string x.ln, .int .i64 x.lnum, .string x.rn, .int .i64 x.rnum, .string x.name, .string x.user, .int .i64 x.line, .int .i64 x.col] 39 := Blk.new _ _ _
        obtain ⟨p0, p1, p2, p3, p4, p5, p6, p7, p8⟩ := hib.nine
        have hT1 : Tabs wr := HT.out.keep hB
        have HP := Lib.hid (put_all (hT1.keep hwr) (owns_below hrow hwr) (by have := hB.size; simp; omega) (by omega) (smallR_of HSH.out hl64 hfl) x (HSH.out x hxm) hp)
        have HB := Lib.hid (hB.alloc hB.size (.cells #[.int .i64 x.op, .string x.ln, .int .i64 x.lnum, .string x.rn, .int .i64 x.rnum, .string x.name, .string x.user, .int .i64 x.line, .int .i64 x.col] 39))
        have HN := Lib.hid (And.intro (buildF_next hx hP hp) (take_flats hfl hx hp))
        have hsl : S.length ≤ k + 1 := by have := pushF_len hp; omega
        have hkz : (k : Int) < (O.length : Int) := by omega
        obtain ⟨adv, capv, hvv⟩ := owns_len hrow
        subst hvv
        unfold itVal at HP
        cases hnx : namedB x
        · have HE := Lib.hid (formR_unnamed HCK.out hxm hnx)
          rw [HFR.out] at HE
          rw [hnx] at HP
          clear hP hfl hnm hrow hB hx hxm hp hib HALL hnx hwr hT1
          go_wp2_with fail
          refine HP.out.mono ?_
          rintro e w2 ⟨v2, rfl, hr2, hb2⟩
          have HB2 := Lib.hid (HB.out.trans hb2)
          clear hr2 hb2
          go_wp2
          refine bodyPost_ret (v := .tuple #[.string ⟨#[]⟩, .int .i64 17]) (by simp [results, Tryz.results7, go_sem]) rfl ?_
          exact ⟨by have e := HE.out; simp only [Prod.mk.injEq] at e; rw [e.1, e.2]; rfl, HB2.out⟩
        · have HA := Lib.hid (take_all hnm hx hnx)
          rw [hnx] at HP
          clear hP hfl hnm hrow hB hx hxm hp hib HALL hnx hwr hT1
          go_wp2_with fail
          refine HP.out.mono ?_
          rintro e w2 ⟨v2, rfl, hr2, hb2⟩
          have HB2 := Lib.hid (And.intro hr2 (HB.out.trans hb2))
          clear hr2 hb2
          go_wp2
          go_roundw
          case rel => exact ⟨k + 1, S, by go_num, by omega, hsl, HN.out.1, HN.out.2, HA.out, HB2.out.1, HB2.out.2⟩
          case measure => simp [intOf]; omega
      · have hkl : k = O.length := by omega
        subst hkl
        have htr := treeF_end hP
        rw [HF.out] at htr
        match R, htr, hrow with
        | [f'], htr, hrow =>
          obtain rfl : f = f' := by simpa [oneFm] using htr
          rw [List.take_length] at hnm
          have HE := Lib.hid (formR_ok HCK.out hnm HF.out)
          rw [HFR.out] at HE
          unfold HRow at hrow
          have hrow2 := hrow
          change wr.ownsRow w.heap.size 47 2 _ 1 [.int .i64 (tightN f.op), .string (textF f)] at hrow2
          obtain ⟨g, cp, hv, hg, hgs⟩ := owns_shape hrow2 (by decide)
          subst hv
          have c1 := (World.ownsRow.cellAt hrow2 1 (by decide))
          have c1' : wr.cell? ⟨g, 1, none⟩ = some (.string (textF f)) := c1
          have HB := Lib.hid hB
          obtain ⟨ft, hft⟩ : ∃ t, textF f = t := ⟨_, rfl⟩
          rw [hft] at HE c1'
          clear hP hfl hnm hrow hrow2 hB HALL htr c1 hft
          go_wp2
          refine bodyPost_ret (v := .tuple #[.string ft, .int .i64 0]) (by simp [results, Tryz.results7, go_sem]) rfl ?_
          exact ⟨by have e := HE.out; simp only [Prod.mk.injEq] at e; rw [e.1, e.2], HB.out⟩
        | [], htr, _ => cases htr
        | f' :: g :: S, htr, _ => cases htr
  · have HE := formR_bad hc
    rw [HE]
    obtain ⟨c, hcc⟩ : ∃ c, chkN O = c := ⟨_, rfl⟩
    rw [hcc] at HC hc ⊢
    have hne : (c != 0) = true := bne_iff_ne.2 hc
    clear h HE hcc hs ht hc
    go_enter Tryz.func7, Tryz.ntmps7
    go_wp2_with fail
    refine HC.out.mono ?_
    rintro e w1 ⟨rfl, hb1⟩
    go_wp2
    go_ret2
    exact ⟨rfl, hb1⟩

end Go.Proofs.YthhjepgcbfmfeaaGreatDoor

namespace Go.Proofs.YthhjepgcbfmfeaaGreatDoor
open Go.RowKit

def PR.items : PR → List It
  | .ok o _ => o
  | .bad _ _ _ => []
def PR.fe : PR → Int
  | .ok _ _ => 0
  | .bad e _ _ => e
def PR.fl : PR → Int
  | .ok _ _ => 0
  | .bad _ l _ => l
def PR.fc : PR → Int
  | .ok _ _ => 0
  | .bad _ _ c => c
theorem WholePost.all {w w' : World} {p : PR} {e : Ending} (h : WholePost w p e w') :
    ∃ v, e = .returned (.tuple #[v, .agg #[.int .i64 p.fe, .int .i64 p.fl, .int .i64 p.fc]]) ∧ w'.ownsRow w.heap.size 39 9 v p.items.length (itFlat p.items) ∧ Below w.heap.size w w' := by
  cases p with
  | ok o a => exact h
  | bad er l c => exact ⟨_, h.1, World.ownsRow_nil _ _ _ _, h.2⟩

end Go.Proofs.YthhjepgcbfmfeaaGreatDoor

namespace Go.Proofs.YthhjepgcbfmfeaaGreatDoor
open Go.RowKit

theorem get_list (P : ByteArray) (k : Nat) : P.get! k = P.data.toList.getD k 0 := by
  cases P with | mk bs =>
  show bs[k]! = bs.toList.getD k 0
  rw [List.getD_eq_getElem?_getD, Array.getElem?_toList, getElem!_def]
  cases bs[k]? with
  | none => rfl
  | some x => rfl
theorem ext_list (P : ByteArray) (b e : Nat) : (P.extract b e).data.toList = (P.data.toList.drop b).take (e - b) := by
  simp [ByteArray.data_extract, List.extract_eq_take_drop]
theorem ba_ext {a b : ByteArray} (h : a.data.toList = b.data.toList) : a = b := by
  cases a; cases b
  simp only [ByteArray.mk.injEq]
  exact Array.toList_inj.1 h
theorem take_one {l : List UInt8} {n : Nat} {x : UInt8} (h : l[n]? = some x) : (l.drop n).take 1 = [x] := by
  obtain ⟨hn, rfl⟩ := List.getElem?_eq_some_iff.1 h
  rw [List.drop_eq_getElem_cons hn]; rfl
/-- what a byte of ASCII is -/
theorem dec_ascii {P : ByteArray} {p : Nat} (h : (P.get! p).toNat < 128) : decR P p = ((P.get! p).toNat : Int) ∧ decN P p = 1 := by
  have hd : Utf8.decode P p = ((P.get! p).toNat, 1) := by
    unfold Utf8.decode
    simp only [Nat.add_zero]
    rw [if_pos h]
  unfold decR decN
  rw [hd]
  refine ⟨?_, rfl⟩
  rw [if_neg (by omega)]
theorem run_step {P : ByteArray} {L : List Rn} {k i j : Nat} {T U : List Tk} (hi : i < L.length) (h : oneT P L i T = ⟨0, 0, 0, j, U⟩) : runT P L (k + 1) i T = runT P L k j U := by
  rw [runT, if_pos hi, h]; rfl
theorem one_blank {P : ByteArray} {L : List Rn} {i : Nat} {T : List Tk} (h : rAt L i = 10) : oneT P L i T = ⟨0, 0, 0, i + 1, T⟩ := by
  unfold oneT; rw [h]; rfl

end Go.Proofs.YthhjepgcbfmfeaaGreatDoor
