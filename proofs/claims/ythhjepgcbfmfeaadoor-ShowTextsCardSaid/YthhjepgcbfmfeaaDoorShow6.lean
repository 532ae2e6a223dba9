/- Contract of show's put. -/
import Derived.Test.YthhjepgcbfmfeaaDoorShow5
import Derived.Deep.RegionLaw
namespace Go.Proofs.YthhjepgcbfmfeaaDoor
open Go.RowKit

theorem info_held : (Tryd.prog.info? 44).map (fun i => (i.zero, i.size, i.bytes)) = some (some (.agg #[.int .i64 0, .string ⟨#[]⟩]), 2, 24) := by kernel_rfl
def heldCells (f : Fm) : List Value := [.int .i64 (tightN f.op), .string (textF f)]
def heldFlat (R : List Fm) : List Value := R.reverse.flatMap heldCells
theorem heldFlat_cons (f : Fm) (R : List Fm) : heldFlat (f :: R) = heldFlat R ++ heldCells f := by simp [heldFlat]
theorem heldFlat_len (R : List Fm) : (heldFlat R).length = R.length * 2 := by
  induction R with
  | nil => rfl
  | cons f R ih => rw [heldFlat_cons, List.length_append, ih]; simp [heldCells]; omega
theorem owns_shrink2 {w : World} {base : Nat} {e : TypeId} {g n cap m : Nat} {xs ys : List Value} (h : w.ownsRow base e 2 (.slice (some ⟨g, 0, none⟩) n cap) n (xs ++ ys)) (hm : m ≤ n) (hx : xs.length = m * 2) : w.ownsRow base e 2 (.slice (some ⟨g, 0, none⟩) m cap) m xs := by
  rcases h.2 with ⟨h0, _⟩ | ⟨g', cap', cur, hv, hb, hg, hn, hc, hs, ht⟩
  · cases h0
  · cases hv
    refine ⟨by omega, .inr ⟨g, cap, cur, rfl, hb, hg, by omega, hc, hs, ?_⟩⟩
    have e : (xs ++ ys).take (m * 2) = xs := by rw [List.take_append_of_le_length (by omega), List.take_of_length_le (by omega)]
    rw [← e, ← ht, List.take_take, Nat.min_eq_left (by omega)]
theorem row_lt {w : World} {base : Nat} {e : TypeId} {g n cap sz : Nat} {xs : List Value} (h : w.ownsRow base e sz (.slice (some ⟨g, 0, none⟩) n cap) n xs) : n ≤ cap ∧ cap ≤ maxLen ∧ g < w.heap.size ∧ base ≤ g := by
  rcases h.2 with ⟨h0, _⟩ | ⟨g', cap', cur, hv, hb, hg, hn, hc, hs, ht⟩
  · cases h0
  · cases hv; exact ⟨hn, hc, (Array.getElem?_eq_some_iff.1 hg).1, hb⟩

/-- what put leaves -/
def PutPost (base n : Nat) (xs : List Value) (ok : Bool) (w : World) (e : Ending) (w' : World) : Prop :=
  ∃ v, e = .returned (.tuple #[v, .bool ok]) ∧ w'.ownsRow base 44 2 v n xs ∧ Below base w w'

theorem named_high {x : It} (h : 13 ≤ x.op) : namedB x = true := by
  unfold namedB; rw [if_neg (by omega), if_neg (by omega), if_neg (by omega)]
theorem arN_two {op : Int} (h : arN op = 2) : 16 ≤ op := by
  unfold arN at h
  split at h
  · omega
  split at h
  · omega
  split at h
  · omega
  · omega
theorem arN_one {op : Int} (h : arN op = 1) : 15 ≤ op := by
  unfold arN at h
  split at h
  · omega
  split at h
  · omega
  split at h
  · omega
  · omega

set_option maxRecDepth 100000 in
set_option maxHeartbeats 2000000 in
theorem put_leaf {w : World} (ht : Tabs w) {base n : Nat} {v : Value} {xs : List Value} (h : w.ownsRow base 44 2 v n xs) (hB : base ≤ w.heap.size) (hn : n ≤ 64) (x : It) (hs : Short x) (hop : arN x.op = 0) :
    Calls Tryd.prog 14 #[v, itVal x] w (PutPost base (n + 1) (xs ++ [.int .i64 4, .string (atomTx x)]) (namedB x) w) := by
  obtain ⟨ad, cap, hv⟩ := owns_len h
  subst hv
  obtain ⟨W0, hW0⟩ : ∃ W, w.alloc (.cells #[.int .i64 x.op, .string x.ln, .int .i64 x.lnum, .string x.rn, .int .i64 x.rnum, .string x.name, .string x.user, .int .i64 x.line, .int .i64 x.col] 36) = W := ⟨_, rfl⟩
  have hA : Blk W0 w.heap.size #[.int .i64 x.op, .string x.ln, .int .i64 x.lnum, .string x.rn, .int .i64 x.rnum, .string x.name, .string x.user, .int .i64 x.line, .int .i64 x.col] 36 := by rw [← hW0]; exact Blk.new w _ _
  have hb0 : Below w.heap.size w W0 := by rw [← hW0]; exact (Below.refl _ w).alloc (Nat.le_refl _) _
  have HB0 := Lib.hid (hb0.mono hB)
  have HT0 := Lib.hid (ht.keep hb0)
  have HR0 := Lib.hid (owns_below h hb0)
  have HSZ := Lib.hid (Nat.le_trans hB hb0.size)
  have HC := Lib.hid (arity_all W0 x.op)
  have HA := Lib.hid (atom_any HT0.out x hs hop)
  have HOP := Lib.hid hop
  obtain ⟨a0, a1, a2, a3, a4, a5, a6, a7, a8⟩ := hA.nine
  unfold itVal at HA ⊢
  obtain ⟨tx, htx⟩ : ∃ s, atomTx x = s := ⟨_, rfl⟩
  obtain ⟨ok, hok⟩ : ∃ s, namedB x = s := ⟨_, rfl⟩
  rw [htx, hok] at HA ⊢
  clear h hop ht hA hb0 hs htx hok
  go_enter Tryd.func14, Tryd.ntmps14
  go_upto_region 1 with fail
  clear hW0
  go_wp2_with fail
  refine HC.out.mono ?_
  rw [HOP.out]
  rintro e w2 ⟨rfl, hw⟩
  rw [hw]
  clear hw
  go_wp2_with fail
  refine HA.out.mono ?_
  rintro e w3 ⟨rfl, hb3⟩
  have HB3 := Lib.hid (HB0.out.trans (hb3.mono HSZ.out))
  have HR3 := Lib.hid (owns_below HR0.out hb3)
  have hsz3 : base ≤ w3.heap.size := Nat.le_trans HSZ.out hb3.size
  clear hb3 a0 a1 a2 a3 a4 a5 a6 a7 a8
  go_wp2_with (at_builtin; refine app1 _ #[.int .i64 4, .string tx] rfl _ _ 38 rfl base 44 (.agg #[.int .i64 0, .string ⟨#[]⟩]) 2 24 Tryd.underlying38 info_held rfl (by decide) (by decide) _ _ _ rfl (by exact HR3.out) rfl (by simp) rfl (by simp [Value.oneCell']) (by omega) hsz3 ?_; intro v' w4 hown4 _ hbel)
  have HO := Lib.hid hown4; have HBL := Lib.hid (HB3.out.trans hbel)
  clear hown4 hbel
  go_wp2
  refine bodyPost_ret (v := .tuple #[v', .bool ok]) (by simp [results, Tryd.results14, go_sem]) rfl ?_
  exact ⟨_, rfl, HO.out, HBL.out⟩

def ldR1 : Op := Op.load 44 (Operand.tmp 28)
theorem ldR1_is : Op.load 44 (Operand.tmp 28) = ldR1 := rfl
attribute [local go_sem] ldR1

set_option maxRecDepth 100000 in
set_option maxHeartbeats 4000000 in
theorem put_one {w : World} (ht : Tabs w) {base n : Nat} {v : Value} {xs : List Value} {t : Int} {s : ByteArray} (h : w.ownsRow base 44 2 v (n + 1) (xs ++ [.int .i64 t, .string s])) (hx : xs.length = n * 2) (hB : base ≤ w.heap.size) (hn : n ≤ 64) (hsz : s.size ≤ 100000) (x : It) (hop : arN x.op = 1) :
    Calls Tryd.prog 14 #[v, itVal x] w (PutPost base (n + 1) (xs ++ [.int .i64 4, .string (signB x.op ++ sp8 ++ inF t 4 s)]) (namedB x) w) := by
  obtain ⟨g, cap, hv, hg, hgs⟩ := owns_shape h (by omega)
  subst hv
  have hnm := named_high (x := x) (by have := arN_one hop; omega)
  rw [hnm]
  clear hnm
  obtain ⟨W0, hW0⟩ : ∃ W, w.alloc (.cells #[.int .i64 x.op, .string x.ln, .int .i64 x.lnum, .string x.rn, .int .i64 x.rnum, .string x.name, .string x.user, .int .i64 x.line, .int .i64 x.col] 36) = W := ⟨_, rfl⟩
  have hA : Blk W0 w.heap.size #[.int .i64 x.op, .string x.ln, .int .i64 x.lnum, .string x.rn, .int .i64 x.rnum, .string x.name, .string x.user, .int .i64 x.line, .int .i64 x.col] 36 := by rw [← hW0]; exact Blk.new w _ _
  have hb0 : Below w.heap.size w W0 := by rw [← hW0]; exact (Below.refl _ w).alloc (Nat.le_refl _) _
  have h0 := owns_below h hb0
  have HB0 := Lib.hid (hb0.mono hB)
  have HT0 := Lib.hid (ht.keep hb0)
  have HSZ := Lib.hid (Nat.le_trans hB hb0.size)
  have HC := Lib.hid (arity_all W0 x.op)
  have HS := Lib.hid (sign_any (show Tabs W0.drew from ⟨HT0.out.mx, HT0.out.pow, HT0.out.spc⟩) x.op)
  have HI := Lib.hid (fun (W : World) => in_any W t 4 s (by omega))
  have HOP := Lib.hid hop
  obtain ⟨sg, hsg⟩ : ∃ q, signB x.op = q := ⟨_, rfl⟩
  have hsgl : sg.size ≤ 8 := by rw [← hsg]; exact signB_size x.op
  obtain ⟨ia, hia⟩ : ∃ q, inF t 4 s = q := ⟨_, rfl⟩
  have hial : ia.size ≤ 100002 := by rw [← hia]; have := inF_size t 4 s; omega
  rw [hsg] at HS
  rw [hia] at HI
  rw [hsg, hia]
  have hc0 : W0.cell? ⟨g, n * 2, none⟩ = some (.int .i64 t) := by
    have h1 := World.ownsRow.cellAt h0 (n * 2) (by omega)
    rw [h1, List.getElem?_append_right (by omega), show n * 2 - xs.length = 0 by omega]; rfl
  have hc1 : W0.cell? ⟨g, n * 2 + 1, none⟩ = some (.string s) := by
    have h1 := World.ownsRow.cellAt h0 (n * 2 + 1) (by omega)
    rw [h1, List.getElem?_append_right (by omega), show n * 2 + 1 - xs.length = 1 by omega]; rfl
  obtain ⟨hnc, hcm, hg0, _⟩ := row_lt h0
  have HR0 := Lib.hid (owns_shrink2 h0 (show n ≤ n + 1 by omega) hx)
  have n1 : ¬ 9223372036854775807 < sg.size + 1 := by omega
  have n2 : ¬ 9223372036854775807 < sg.size + 1 + ia.size := by omega
  have hz : (0 : Int) ≤ (n : Int) := by omega
  have hzc : (n : Int) ≤ (cap : Int) := by omega
  have hz1 : (n : Int) < (n : Int) + 1 := by omega
  have hw0 : IntKind.i64.wrap (n : Int) = n := IntWalk.i64_in _ ⟨by omega, by omega⟩
  have hw1 : IntKind.i64.wrap ((n : Int) + 1 - 1) = n := by rw [show (n : Int) + 1 - 1 = n by omega]; exact hw0
  obtain ⟨i0, hi0, hz0, hz1, hz2⟩ := info_parts info_held
  have HIP := Lib.hid (And.intro hi0 (And.intro hz0 (And.intro hz1 hz2)))
  have HK0 := Lib.hid hA
  obtain ⟨a0, a1, a2, a3, a4, a5, a6, a7, a8⟩ := hA.nine
  have d0 := hA.drew.nine.1
  unfold itVal
  clear h h0 hop ht hA hb0 hsg hia hi0 hz0 hz1 hz2 hsgl hial
  go_enter Tryd.func14, Tryd.ntmps14
  go_upto_region 1 with fail
  clear hW0
  go_wp2_with fail
  refine HC.out.mono ?_
  rw [HOP.out]
  rintro e w2 ⟨rfl, hw⟩
  rw [hw]
  clear hw
  go_wp2
  rw [ldR1_is]
  (go_region_held3 (fun w' => w'.cell? ⟨w.heap.size, 0, none⟩ = some (.int .i64 x.op))
      (first | assumption | go_keep)
      (first
        | (go_simp; go_at_call 11; (with_reducible refine HS.out.mono ?_)
           rintro e w3 ⟨rfl, hb3⟩
           have HB3 := Lib.hid (HB0.out.drew.trans (hb3.mono HSZ.out))
           have e0 := (HK0.out.drew.keep hb3).nine.1
           have hc3 := (hb3.cell (p := ⟨g, n * 2, none⟩) hg0).trans hc0
           have hc4 := (hb3.cell (p := ⟨g, n * 2 + 1, none⟩) hg0).trans hc1
           have HR3 := Lib.hid (owns_below HR0.out.drew hb3)
           have HK3 := Lib.hid (HK0.out.drew.keep hb3)
           have hs3 := hb3.size
           clear hb3)
        | (go_simp; go_at_call 25; (with_reducible refine (HI.out _).mono ?_)
           rintro e w4 ⟨rfl, hb4⟩
           have hB3 : base ≤ w3.heap.size := Nat.le_trans HSZ.out hs3
           have HB4 := Lib.hid (HB3.out.trans (hb4.mono hB3))
           have f0 := (HK3.out.keep hb4).nine.1
           have HK4 := Lib.hid (HK3.out.keep hb4)
           have hB4 : base ≤ w4.heap.size := Nat.le_trans hB3 hb4.size
           have HR4 := Lib.hid (owns_below HR3.out hb4)
           clear hb4)
        | (refine step_append_lies _ (by rfl) _ _ _ (by rfl) base 44 i0 _ 2 24 Tryd.underlying38 HIP.out.1 HIP.out.2.1 HIP.out.2.2.1 HIP.out.2.2.2 rfl (by omega) _ n xs (by rfl) (World.ownsRow.alloc HR4.out _) ⟨w4.heap.size, 0, none⟩ 1 1 [.int .i64 4, .string (sg ++ (⟨#[32]⟩ : ByteArray) ++ ia)] (by rfl) (by rfl) (World.news_of_block (cs := #[.int .i64 4, .string (sg ++ (⟨#[32]⟩ : ByteArray) ++ ia)]) (t := 44) (fr := (0, 0)) (heap_at_sizeS _ _ _ (by simp))) (by simp [Value.oneCell']) (by omega) (by unfold maxLen; omega) (by omega) (by simp; omega) (w4.heap.size + 1) (by simp) ?_
           intro g3 cap3 w5 hown3 hgrow hat hlt3
           have HO := Lib.hid hown3
           have g0 := ((HK4.out.alloc (.cells #[.int .i64 4, .string (sg ++ (⟨#[32]⟩ : ByteArray) ++ ia)] 44)).grown hgrow (by simp [Value.ownBlock]; omega)).nine.1
           have HBL := Lib.hid ((HB4.out.alloc (show base ≤ w4.heap.size by omega) _).grown hgrow (by simp; omega) (fun k e => (HR4.out.lt k e).1))
           clear hown3 hgrow hat)))
  all_goals
    go_wp2
    refine bodyPost_ret (v := .tuple #[.slice (some ⟨g3, 0, none⟩) (n + 1) cap3, .bool true]) (by simp [results, Tryd.results14, go_sem]) rfl ?_
    exact ⟨_, rfl, HO.out, HBL.out⟩

def ldR2 : Op := Op.load 44 (Operand.tmp 46)
theorem ldR2_is : Op.load 44 (Operand.tmp 46) = ldR2 := rfl
def ldR3 : Op := Op.load 44 (Operand.tmp 51)
theorem ldR3_is : Op.load 44 (Operand.tmp 51) = ldR3 := rfl
attribute [local go_sem] ldR2 ldR3

set_option maxRecDepth 100000 in
set_option maxHeartbeats 4000000 in
theorem put_two {w : World} (ht : Tabs w) {base n : Nat} {v : Value} {xs : List Value} {t u : Int} {s r : ByteArray} (h : w.ownsRow base 44 2 v (n + 2) (xs ++ [.int .i64 t, .string s, .int .i64 u, .string r])) (hx : xs.length = n * 2) (hB : base ≤ w.heap.size) (hn : n ≤ 64) (hsz : s.size ≤ 100000) (hrz : r.size ≤ 100000) (x : It) (hop : arN x.op = 2) :
    Calls Tryd.prog 14 #[v, itVal x] w (PutPost base (n + 1) (xs ++ [.int .i64 (tightN x.op), .string (twoTx x.op t s u r)]) (namedB x) w) := by
  obtain ⟨g, cap, hv, hg, hgs⟩ := owns_shape h (by omega)
  subst hv
  have hnm := named_high (x := x) (by have := arN_two hop; omega)
  rw [hnm]
  clear hnm
  obtain ⟨W0, hW0⟩ : ∃ W, w.alloc (.cells #[.int .i64 x.op, .string x.ln, .int .i64 x.lnum, .string x.rn, .int .i64 x.rnum, .string x.name, .string x.user, .int .i64 x.line, .int .i64 x.col] 36) = W := ⟨_, rfl⟩
  have hA : Blk W0 w.heap.size #[.int .i64 x.op, .string x.ln, .int .i64 x.lnum, .string x.rn, .int .i64 x.rnum, .string x.name, .string x.user, .int .i64 x.line, .int .i64 x.col] 36 := by rw [← hW0]; exact Blk.new w _ _
  have hb0 : Below w.heap.size w W0 := by rw [← hW0]; exact (Below.refl _ w).alloc (Nat.le_refl _) _
  have h0 := owns_below h hb0
  have HB0 := Lib.hid (hb0.mono hB)
  have HT0 := Lib.hid (ht.keep hb0)
  have HSZ := Lib.hid (Nat.le_trans hB hb0.size)
  have HC := Lib.hid (arity_all W0 x.op)
  have HS := Lib.hid (two_any (show Tabs W0.drew from ⟨HT0.out.mx, HT0.out.pow, HT0.out.spc⟩) x.op hop t u s r hsz hrz)
  have HOP := Lib.hid hop
  obtain ⟨tx, htx⟩ : ∃ q, twoTx x.op t s u r = q := ⟨_, rfl⟩
  obtain ⟨tg, htg⟩ : ∃ q, tightN x.op = q := ⟨_, rfl⟩
  rw [htx, htg] at HS
  rw [htx, htg]
  have hc0 : W0.cell? ⟨g, n * 2, none⟩ = some (.int .i64 t) := by
    have h1 := World.ownsRow.cellAt h0 (n * 2) (by omega)
    rw [h1, List.getElem?_append_right (by omega), show n * 2 - xs.length = 0 by omega]; rfl
  have hc1 : W0.cell? ⟨g, n * 2 + 1, none⟩ = some (.string s) := by
    have h1 := World.ownsRow.cellAt h0 (n * 2 + 1) (by omega)
    rw [h1, List.getElem?_append_right (by omega), show n * 2 + 1 - xs.length = 1 by omega]; rfl
  have hc2 : W0.cell? ⟨g, (n + 1) * 2, none⟩ = some (.int .i64 u) := by
    have h1 := World.ownsRow.cellAt h0 ((n + 1) * 2) (by omega)
    rw [h1, List.getElem?_append_right (by omega), show (n + 1) * 2 - xs.length = 2 by omega]; rfl
  have hc3 : W0.cell? ⟨g, (n + 1) * 2 + 1, none⟩ = some (.string r) := by
    have h1 := World.ownsRow.cellAt h0 ((n + 1) * 2 + 1) (by omega)
    rw [h1, List.getElem?_append_right (by omega), show (n + 1) * 2 + 1 - xs.length = 3 by omega]; rfl
  obtain ⟨hnc, hcm, hg0, _⟩ := row_lt h0
  have HR0 := Lib.hid (owns_shrink2 h0 (show n ≤ n + 2 by omega) hx)
  have hz : (0 : Int) ≤ (n : Int) := by omega
  have hzc : (n : Int) ≤ (cap : Int) := by omega
  have hz1 : (n : Int) < (n : Int) + 2 := by omega
  have hw0 : IntKind.i64.wrap (n : Int) = n := IntWalk.i64_in _ ⟨by omega, by omega⟩
  have hw1 : IntKind.i64.wrap ((n : Int) + 2 - 2) = n := by rw [show (n : Int) + 2 - 2 = n by omega]; exact hw0
  have hw2 : IntKind.i64.wrap ((n : Int) + 2 - 1) = (n : Int) + 1 := by rw [show (n : Int) + 2 - 1 = (n : Int) + 1 by omega]; exact IntWalk.i64_in _ ⟨by omega, by omega⟩
  have hw3 : IntKind.i64.wrap ((n : Int) + 1) = (n : Int) + 1 := IntWalk.i64_in _ ⟨by omega, by omega⟩
  have hz2 : (n : Int) + 1 < (n : Int) + 2 := by omega
  have hz3 : (0 : Int) ≤ (n : Int) + 1 := by omega
  have ht2 : ((n : Int) + 1).toNat = n + 1 := by omega
  obtain ⟨i0, hi0, hz0, hz1, hz2⟩ := info_parts info_held
  have HIP := Lib.hid (And.intro hi0 (And.intro hz0 (And.intro hz1 hz2)))
  have HK0 := Lib.hid hA
  obtain ⟨a0, a1, a2, a3, a4, a5, a6, a7, a8⟩ := hA.nine
  have d0 := hA.drew.nine.1
  unfold itVal
  clear h h0 hop ht hA hb0 htx htg hi0 hz0 hz1 hz2
  go_enter Tryd.func14, Tryd.ntmps14
  go_upto_region 1 with fail
  clear hW0
  go_wp2_with fail
  refine HC.out.mono ?_
  rw [HOP.out]
  rintro e w2 ⟨rfl, hw⟩
  rw [hw]
  clear hw
  go_wp2
  rw [ldR2_is, ldR3_is]
  (go_region_held3 (fun w' => w'.cell? ⟨w.heap.size, 0, none⟩ = some (.int .i64 x.op))
      (first | assumption | go_keep)
      (first
        | (go_simp; go_at_call 26; (with_reducible refine HS.out.mono ?_)
           rintro e w4 ⟨rfl, hb4⟩
           have HB4 := Lib.hid (HB0.out.drew.trans (hb4.mono HSZ.out))
           have e0 := (HK0.out.drew.keep hb4).nine.1
           have HR4 := Lib.hid (owns_below HR0.out.drew hb4)
           have HK4 := Lib.hid (HK0.out.drew.keep hb4)
           have hB4 : base ≤ w4.heap.size := Nat.le_trans HSZ.out hb4.size
           clear hb4)
        | (refine step_append_lies _ (by rfl) _ _ _ (by rfl) base 44 i0 _ 2 24 Tryd.underlying38 HIP.out.1 HIP.out.2.1 HIP.out.2.2.1 HIP.out.2.2.2 rfl (by omega) _ n xs (by rfl) (World.ownsRow.alloc HR4.out _) ⟨w4.heap.size, 0, none⟩ 1 1 [.int .i64 tg, .string tx] (by rfl) (by rfl) (World.news_of_block (cs := #[.int .i64 tg, .string tx]) (t := 44) (fr := (0, 0)) (heap_at_sizeS _ _ _ (by simp))) (by simp [Value.oneCell']) (by omega) (by unfold maxLen; omega) (by omega) (by simp; omega) (w4.heap.size + 1) (by simp) ?_
           intro g3 cap3 w5 hown3 hgrow hat hlt3
           have HO := Lib.hid hown3
           have g0 := ((HK4.out.alloc (.cells #[.int .i64 tg, .string tx] 44)).grown hgrow (by simp [Value.ownBlock]; omega)).nine.1
           have HBL := Lib.hid ((HB4.out.alloc (show base ≤ w4.heap.size by omega) _).grown hgrow (by simp; omega) (fun k e => (HR4.out.lt k e).1))
           clear hown3 hgrow hat)))
  all_goals
    go_wp2
    refine bodyPost_ret (v := .tuple #[.slice (some ⟨g3, 0, none⟩) (n + 1) cap3, .bool true]) (by simp [results, Tryd.results14, go_sem]) rfl ?_
    exact ⟨_, rfl, HO.out, HBL.out⟩

/-- the texts on a row are not too long -/
def SmallR (R : List Fm) : Prop := ∀ f ∈ R, (textF f).size ≤ 100000
/-- the row of texts -/
def HRow (w : World) (base : Nat) (v : Value) (R : List Fm) : Prop := w.ownsRow base 44 2 v R.length (heldFlat R)
theorem put_all {w : World} (ht : Tabs w) {base : Nat} {v : Value} {R S : List Fm} (h : HRow w base v R) (hB : base ≤ w.heap.size) (hn : R.length ≤ 64) (hsm : SmallR R) (x : It) (hs : Short x) (hp : pushF x R = some S) :
    Calls Tryd.prog 14 #[v, itVal x] w fun e w' => ∃ v', e = .returned (.tuple #[v', .bool (namedB x)]) ∧ HRow w' base v' S ∧ Below base w w' := by
  unfold pushF at hp
  split at hp
  · rename_i h0
    cases hp
    refine (put_leaf ht h hB hn x hs h0).mono fun e w' hh => ?_
    obtain ⟨v', he, ho, hb⟩ := hh
    refine ⟨v', he, ?_, hb⟩
    have e4 : tightN x.op = 4 := by
      have : x.op ≤ 14 := by
        unfold arN at h0
        split at h0
        · omega
        split at h0
        · omega
        split at h0
        · omega
        · omega
      unfold tightN; rw [if_neg (by omega), if_neg (by omega), if_neg (by omega)]
    unfold HRow
    rw [heldFlat_cons]
    show w'.ownsRow base _ 2 v' (R.length + 1) (heldFlat R ++ [.int .i64 (tightN x.op), .string (atomTx x)])
    rw [e4]; exact ho
  split at hp
  · rename_i h1
    match R, hp, h, hn, hsm with
    | f :: R, hp, h, hn, hsm =>
      cases hp
      unfold HRow at h
      rw [heldFlat_cons] at h
      refine (put_one ht h (heldFlat_len R) hB (by simp at hn; omega) (hsm f (by simp)) x h1).mono fun e w' hh => ?_
      obtain ⟨v', he, ho, hb⟩ := hh
      refine ⟨v', he, ?_, hb⟩
      have e4 : tightN x.op = 4 := by
        have : x.op = 15 ∨ 19 ≤ x.op := by
          unfold arN at h1
          split at h1
          · omega
          split at h1
          · omega
          split at h1
          · omega
          · omega
        unfold tightN; rw [if_neg (by omega), if_neg (by omega), if_neg (by omega)]
      unfold HRow
      rw [heldFlat_cons]
      show w'.ownsRow base _ 2 v' (R.length + 1) (heldFlat R ++ [.int .i64 (tightN x.op), .string (signB x.op ++ sp8 ++ inF (tightN f.op) 4 (textF f))])
      rw [e4]; exact ho
    | [], hp, _, _, _ => cases hp
  split at hp
  · rename_i h2
    match R, hp, h, hn, hsm with
    | g :: f :: R, hp, h, hn, hsm =>
      cases hp
      unfold HRow at h
      rw [heldFlat_cons, heldFlat_cons, List.append_assoc] at h
      refine (put_two ht h (heldFlat_len R) hB (by simp at hn; omega) (hsm f (by simp)) (hsm g (by simp)) x h2).mono fun e w' hh => ?_
      obtain ⟨v', he, ho, hb⟩ := hh
      refine ⟨v', he, ?_, hb⟩
      unfold HRow
      rw [heldFlat_cons]
      exact ho
    | [f], hp, _, _, _ => cases hp
    | [], hp, _, _, _ => cases hp
  · cases hp

end Go.Proofs.YthhjepgcbfmfeaaDoor
