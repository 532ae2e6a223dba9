/- Contracts of awake and BitsSets of warderlaw14. Contracts of Same of warderref21, Outer of package halve, awake of warderlaw21. The maker of package put: what stays while all zones are told. -/
import Derived.Test.YtkkoooagamadjaaGreatDoorPk07
import Derived.Test.YtkkoooagamadjaaGreatDoorPk16
import Derived.Test.YtkkoooagamadjaaGreatDoorPk15

namespace Go.Proofs.YtkkoooagamadjaaGreatDoor
open Go.RowKit

/-- a written list in new memory reads -/
theorem Reads.lit (w : World) (us : Array Value) (e : TypeId) (n cap : Nat) (hn : n = us.size) (hm : n ≤ maxLen) : Reads (w.alloc (.cells us e)) (.slice (some ⟨w.heap.size, 0, none⟩) n cap) us.toList := by
  refine .inr ⟨w.heap.size, 0, cap, by simp [hn], by simp, by simpa [hn] using hm, fun t x hx => ?_⟩
  rw [World.cell?_alloc_at _ _ _ _ rfl, Nat.zero_add]
  simpa using hx

theorem Reads.keep {w w' : World} {v : Value} {xs : List Value} (h : Reads w v xs) (hb : Below w.heap.size w w') : Reads w' v xs := h.below (Nat.le_refl _) hb

theorem ofL_02 : ofL [0, 2] = 5 := by decide +kernel
theorem listZ_5 : listZ 5 31 = [0, 2] := by decide +kernel
theorem first_3 : firstZ 3 = 7 := by decide +kernel

theorem ofL_bd (l : List Int) : 0 ≤ ofL l ∧ ofL l < 2147483648 := by
  rw [ofL_ofB]; have := ofB_lt fun j => decide ((j : Int) ∈ l); omega

/- sets of so many numbers -/
theorem listZ_first (n : Int) : ((listZ (firstZ n) 31).length : Int) = max 0 (min n 31) := by
  have hc := clamp_le n
  have key : ∀ k, k ≤ 31 → (listZ (firstZ n) k).length = min k (clamp n) := by
    intro k
    induction k with
    | zero => intro _; simp [listZ]
    | succ k ih =>
      intro hk
      have e := hasN_first n k (by omega)
      have ih' := ih (by omega)
      unfold listZ at *
      rw [List.range_succ, List.filter_append, List.map_append, List.length_append, ih']
      by_cases h : k < clamp n
      · simp [e, h]; omega
      · simp [e, h]; omega
  rw [key 31 (by omega)]
  unfold clamp at *
  omega

theorem within_first (n m : Int) : withinB (firstZ n) (firstZ m) = decide (min n 31 ≤ max 0 m) := by
  have hn := clamp_le n
  have hm := clamp_le m
  rw [Bool.eq_iff_iff]
  unfold withinB
  rw [List.all_eq_true, decide_eq_true_eq]
  constructor
  · intro h
    by_cases hc : clamp n ≤ clamp m
    · unfold clamp at *; omega
    · have := h (clamp m) (by simp; omega)
      rw [hasN_first n _ (by omega), hasN_first m _ (by omega)] at this
      simp at this; omega
  · intro h j hj
    have hj' : j < 31 := by simpa using hj
    rw [hasN_first n j hj', hasN_first m j hj']
    have : clamp n ≤ clamp m := by unfold clamp; omega
    by_cases h1 : j < clamp n
    · simp; omega
    · simp [h1]

theorem has_first (n : Int) : hasB (firstZ n) 3 = decide (3 < n) := by
  unfold hasB
  rw [if_pos (by omega)]
  rw [show (3 : Int).toNat = 3 from rfl, hasN_first n 3 (by omega)]
  rw [Bool.eq_iff_iff, decide_eq_true_eq, decide_eq_true_eq]
  unfold clamp; omega

theorem of_listZ (s : Int) : ofL (listZ s 31) = putZ (putZ s 31 true) (-1) false := by
  rw [putZ_out _ (-1) false (by omega), putZ_out s 31 true (by omega), ofL_ofB]
  have e : lo (lo s : Int) = lo s := by unfold lo; omega
  rw [e, lo_ofB]
  rw [ofB_congr (fun j => decide ((j : Int) ∈ listZ s 31)) (hasN s) (by
    intro j hj
    unfold listZ
    rw [Bool.eq_iff_iff, decide_eq_true_eq]
    simp only [List.mem_map, List.mem_filter, List.mem_range]
    constructor
    · rintro ⟨a, ⟨_, h2⟩, h3⟩
      have : a = j := by omega
      subst this; exact h2
    · intro h; exact ⟨j, ⟨hj, h⟩, rfl⟩)]

end Go.Proofs.YtkkoooagamadjaaGreatDoor

namespace Go.Proofs.YtkkoooagamadjaaGreatDoor
open Go.RowKit
attribute [local go_sem] eq_pair

theorem neq_pair (w : World) (a b c d : Int) : (Op.equalIn 10000 98 (.agg #[.int .i64 a, .int .i64 b]) (.agg #[.int .i64 c, .int .i64 d])).run Tryz.prog w = .ok (a == c && b == d) w := eq_pair a b c d w

/-- how far a number may be put -/
def outL (r : Int) : List Int := if r < 1 then [] else (List.range (kap (r - 1) + 1)).map fun i : Nat => (i : Int)

set_option maxHeartbeats 2000000 in
theorem outer_any (r : Int) (w : World) (hr2 : r ≤ 9223372036854775807) :
    Calls Tryz.prog 81 #[.int .i64 r] w fun e w' => ∃ v, e = .returned v ∧ w'.ownsRow w.heap.size 3 1 v (outL r).length (ints (outL r)) ∧ Below w.heap.size w w' := by
  by_cases hr0 : r < 1
  · have H : Hid (outL r = []) := by unfold Hid outL; rw [if_pos hr0]
    go_enter Tryz.func81, Tryz.ntmps81
    go_wp2
    go_ret
    exact ⟨_, rfl, by rw [H.out]; exact World.ownsRow_nil _ _ _ _, Below.refl _ w⟩
  · obtain ⟨h, hh⟩ : ∃ h, kap (r - 1) = h := ⟨_, rfl⟩
    have hle := kap_le (r - 1)
    rw [hh] at hle
    have HR : Hid (outL r = (List.range (h + 1)).map fun i : Nat => (i : Int)) := by unfold Hid outL; rw [if_neg hr0, hh]
    have HH := Lib.hid hh
    clear hh
    go_enter Tryz.func81, Tryz.ntmps81
    go_wp2_with fail
    refine (cap_any _ _).mono ?_; rintro e w' ⟨rfl, rfl⟩; rw [HH.out]
    go_wp2
    go_loopw [3, 4, 12] (fun v _ i wr => ∃ k : Nat, k ≤ h + 1 ∧ i = .int .i64 k ∧ wr.ownsRow w.heap.size 3 1 v k (ints ((List.range k).map fun i : Nat => (i : Int))) ∧ Below w.heap.size w wr) (fun _ _ i _ => h + 1 - (intOf i).toNat)
    case atStart => exact ⟨0, Nat.zero_le _, rfl, World.ownsRow_nil _ _ _ _, Below.refl _ _⟩
    case round =>
      obtain ⟨k, hk, rfl, hown, hb⟩ := hrel
      have hsz := hb.size
      by_cases hlt : k < h + 1
      · have p1 : (k : Int) < (h : Int) + 1 := by omega
        have HM : Hid (ints ((List.range (k + 1)).map fun i : Nat => (i : Int)) = ints ((List.range k).map fun i : Nat => (i : Int)) ++ [.int .i64 k]) := by unfold Hid ints; rw [List.range_succ]; simp
        go_wp2_with (at_builtin; refine app1 wr #[.int .i64 k] rfl _ _ 26 rfl w.heap.size 3 (.int .i64 0) 1 8 Tryz.underlying26 info_int rfl (by decide) (by decide) _ _ _ rfl (by exact hown) rfl (by simp) rfl (by simp [Value.oneCell']) (by omega) hsz ?_; intro v' w1 hown' hg' hb')
        go_roundw
        case rel => exact ⟨k + 1, by omega, by go_num, by rw [HM.out]; exact hown', hb.trans hb'⟩
        case measure => simp [intOf]; omega
      · obtain rfl : k = h + 1 := by omega
        have p1 : ¬ ((h + 1 : Nat) : Int) < (h : Int) + 1 := by omega
        go_wp2
        go_ret
        exact ⟨_, rfl, by rw [HR.out]; simpa using hown, hb⟩

theorem kap_3 : kap 3 = 7 := by decide +kernel
theorem spl_22 : splP 2 2 = [(0, 1), (1, 0)] := by decide +kernel
theorem spl_32 : splP 3 2 = [(0, 1), (1, 0), (1, 1)] := by decide +kernel

/-- a written list of pairs in new memory is owned -/
theorem owns_lit (w : World) (l : List (Int × Int)) (us : Array Value) (hu : us.toList = cellsP l) (hl : l.length ≤ 16) : (w.alloc (.cells us 98)).ownsRow w.heap.size 98 2 (.slice (some ⟨w.heap.size, 0, none⟩) l.length l.length) l.length (cellsP l) := by
  rw [← hu]
  exact World.ownsRow_lit w us l.length (Nat.le_refl _) (by unfold maxLen; omega) (by rw [← Array.length_toList, hu, cellsP_len])

end Go.Proofs.YtkkoooagamadjaaGreatDoor

namespace Go.Proofs.YtkkoooagamadjaaGreatDoor
open Go.RowKit Go.Shelf

/-- the zones with the attribute ahead, of gaps in that order -/
def headZ (cl : List (Int × Int)) (gl : List Int) (a r : Int) (l : List Int) : List Zn := l.map fun g => ownZ cl gl a r 0 0 0 [g]
/-- those in a class, and behind it -/
def stepZ (cl : List (Int × Int)) (gl : List Int) (a r : Int) (i : Nat) : List Zn :=
  inCZ cl gl a r i (cl.getD i (0, 0)).1 (cl.getD i (0, 0)).2 :: if i + 1 < cl.length then (splP (gl.getD i 0) r).map fun s => ownZ cl gl a r (i + 1) i (i + 1) [s.1, s.2] else []
def midZ (cl : List (Int × Int)) (gl : List Int) (a r : Int) (k : Nat) : List Zn := (List.range k).flatMap (stepZ cl gl a r)
def tailZ (cl : List (Int × Int)) (gl : List Int) (a r : Int) (l : List Int) : List Zn := l.map fun g => ownZ cl gl a r cl.length (cl.length - 1) (cl.length - 1) [g]
/-- all zones that are told -/
def putA (cl : List (Int × Int)) (gl : List Int) (a r : Int) : List Zn :=
  if cl.length = 0 then [ownZ cl gl a r 0 0 0 []] else headZ cl gl a r (outL r).reverse ++ midZ cl gl a r cl.length ++ tailZ cl gl a r (outL r)
theorem midZ_succ (cl : List (Int × Int)) (gl : List Int) (a r : Int) (k : Nat) : midZ cl gl a r (k + 1) = midZ cl gl a r k ++ stepZ cl gl a r k := by simp [midZ, List.range_succ]

theorem kap_small (r : Int) (h1 : 1 ≤ r) (h2 : r ≤ 6) : kap (r - 1) ≤ 31 := by
  have : (2 : Nat) ^ kapE (r - 1) ≤ 2 ^ 5 := Nat.pow_le_pow_right (by omega) (by unfold kapE; omega)
  unfold kap; omega
theorem outL_len (r : Int) (h1 : 1 ≤ r) (h2 : r ≤ 6) : (outL r).length ≤ 32 := by
  have := kap_small r h1 h2
  unfold outL; rw [if_neg (by omega)]; simp; omega
theorem gridP_len (h : Nat) (p : Int × Int → Bool) : (gridP h p).length ≤ (h + 1) * (h + 1) := by
  have key : ∀ k, (gridK p h k).length ≤ k * (h + 1) := by
    intro k
    induction k with
    | zero => simp [gridK]
    | succ k ih =>
      unfold gridK at *
      rw [List.range_succ, List.flatMap_append, List.length_append, Nat.succ_mul]
      refine Nat.add_le_add ih ?_
      simp only [List.flatMap_cons, List.flatMap_nil, List.append_nil]
      unfold rowP
      exact Nat.le_trans (List.length_filter_le _ _) (by simp)
  exact key (h + 1)
theorem splP_len (g r : Int) (h1 : 1 ≤ r) (h2 : r ≤ 6) : (splP g r).length ≤ 1024 := by
  unfold splP
  split
  · simp
  · refine Nat.le_trans (gridP_len _ _) ?_
    have := kap_small r h1 h2
    rw [show min r 20 - 1 = r - 1 by omega]
    have : kap (r - 1) + 1 ≤ 32 := by omega
    exact Nat.mul_le_mul this this
theorem stepZ_len (cl : List (Int × Int)) (gl : List Int) (a r : Int) (i : Nat) (h1 : 1 ≤ r) (h2 : r ≤ 6) : (stepZ cl gl a r i).length ≤ 1025 := by
  unfold stepZ
  have := splP_len (gl.getD i 0) r h1 h2
  rw [List.length_cons]
  split
  · rw [List.length_map]; omega
  · simp
theorem midZ_len (cl : List (Int × Int)) (gl : List Int) (a r : Int) (k : Nat) (h1 : 1 ≤ r) (h2 : r ≤ 6) : (midZ cl gl a r k).length ≤ k * 1025 := by
  induction k with
  | zero => simp [midZ]
  | succ k ih =>
    rw [midZ_succ, List.length_append, Nat.succ_mul]
    exact Nat.add_le_add ih (stepZ_len cl gl a r k h1 h2)

theorem RepOK.lit1 (W : World) (x : Int) (f n : Nat) (hf : f ≤ n) (e : TypeId) : RepOK (W.alloc (.cells #[.int .i64 x] e)) (.slice (some ⟨W.heap.size, 0, none⟩) 1 1) [x] f f n :=
  .inl ⟨rfl, hf, W.heap.size, rfl, rfl, by simp, fun j u hu => by rw [World.cell?_alloc_at _ _ _ _ (by simp)]; simpa [ints] using hu⟩
theorem RepOK.lit2 (W : World) (x y : Int) (f n : Nat) (hf : f < n) (e : TypeId) : RepOK (W.alloc (.cells #[.int .i64 x, .int .i64 y] e)) (.slice (some ⟨W.heap.size, 0, none⟩) 2 2) [x, y] f (f + 1) n :=
  .inr (.inl ⟨rfl, hf, W.heap.size, rfl, rfl, by simp, fun j u hu => by rw [World.cell?_alloc_at _ _ _ _ (by simp)]; simpa [ints] using hu⟩)

/-- blocks of cells stay -/
def CellsKept (W W' : World) : Prop := ∀ (k : Nat) (cs : Array Value) (t : TypeId) (f : Nat × Nat), W.heap[k]? = some (Obj.cells cs t f) → W'.heap[k]? = some (Obj.cells cs t f)
theorem CellsKept.of_turn {W W' : World} {row : Option Nat} (hg : W.grownBy W' row) (hr : ∀ r, row = some r → ∃ o : Obj, W.heap[r]? = some o ∧ o.isCells = false) : CellsKept W W' := by
  intro k cs t f h
  refine (hg.block k (Array.getElem?_eq_some_iff.1 h).1 fun e => ?_).trans h
  obtain ⟨o, ho, hc⟩ := hr k e.symm
  rw [h] at ho; cases ho; cases hc
theorem CellsKept.row {W W' : World} (h : CellsKept W W') {b n sz : Nat} {e : TypeId} {v : Value} {xs : List Value} (hr : W.ownsRow b e sz v n xs) : W'.ownsRow b e sz v n xs := by
  refine ⟨hr.1, ?_⟩
  rcases hr.2 with hn | ⟨g, cap, cur, rfl, hb, hgg, rest⟩
  · exact .inl hn
  · exact .inr ⟨g, cap, cur, rfl, hb, h _ _ _ _ hgg, rest⟩
theorem CellsKept.blk {W W' : World} (h : CellsKept W W') {b : Nat} {cs : Array Value} {t : TypeId} (hb : Blk W b cs t) : Blk W' b cs t := h _ _ _ _ hb
theorem CellsKept.zones {W W' : World} (h : CellsKept W W') {base : Nat} {v : Value} {zs : List Zn} (hz : ZonesAt W base v zs) : ZonesAt W' base v zs := by
  obtain ⟨ps, hl, hr, hz⟩ := hz
  exact ⟨ps, hl, h.row hr, fun i p z h1 h2 => ⟨h.row (hz i p z h1 h2).1, h.row (hz i p z h1 h2).2⟩⟩

theorem PI.turn {w0 W W' : World} {base bo bm : Nat} {v1 v2 v : Value} {cl : List (Int × Int)} {gl : List Int} {a r : Int} {zs : List Zn} {row : Option Nat} (h : PI w0 base bo bm v1 v2 cl gl a r v zs W) (hg : W.grownBy W' row) (hr : ∀ q, row = some q → w0.heap.size ≤ q ∧ ∃ o : Obj, W.heap[q]? = some o ∧ o.isCells = false) : PI w0 base bo bm v1 v2 cl gl a r v zs W' := by
  have hc := CellsKept.of_turn hg (fun q e => (hr q e).2)
  exact ⟨hc.blk h.box, hc.zones h.zones, hc.blk h.maker, h.z0, h.low.grown hg h.low.size (fun k e => (hr k e).1), Nat.le_trans h.hb hg.size, h.h0, h.hbo, h.ne⟩

/-- how things lie between two zones that are told by all -/
structure AI (w0 W : World) (base bo bm : Nat) (v1 v2 : Value) (cl : List (Int × Int)) (gl : List Int) (a r : Int) (ov : Value) (O : List Int) (zs : List Zn) (Wx : World) : Prop where
  ex : ∃ v, PI w0 base bo bm v1 v2 cl gl a r v zs Wx
  mb : Blk Wx W.heap.size #[.pointer (some ⟨bm, 0, none⟩)] 73
  ob : Wx.ownsRow W.heap.size 3 1 ov O.length (ints O)
  kp : KeepT base bo W Wx
  lo : w0.heap.size ≤ W.heap.size ∧ bo < W.heap.size ∧ bm < W.heap.size
theorem AI.step {w0 W Wx W' : World} {base bo bm : Nat} {v1 v2 ov : Value} {cl : List (Int × Int)} {gl : List Int} {a r : Int} {O : List Int} {zs zs' : List Zn} (h : AI w0 W base bo bm v1 v2 cl gl a r ov O zs Wx) (k : KeepT base bo Wx W') (e : ∃ v, PI w0 base bo bm v1 v2 cl gl a r v zs' W') : AI w0 W base bo bm v1 v2 cl gl a r ov O zs' W' := by
  obtain ⟨v, hv⟩ := h.ex
  exact ⟨e, k.blk h.mb (by have := h.lo.2.1; omega) (by decide), k.row hv.box h.ob (by decide) (by decide), h.kp.trans k, h.lo⟩
theorem AI.below {w0 W Wx W' : World} {base bo bm : Nat} {v1 v2 ov : Value} {cl : List (Int × Int)} {gl : List Int} {a r : Int} {O : List Int} {zs : List Zn} (h : AI w0 W base bo bm v1 v2 cl gl a r ov O zs Wx) (k : Below Wx.heap.size Wx W') : AI w0 W base bo bm v1 v2 cl gl a r ov O zs W' := by
  obtain ⟨v, hv⟩ := h.ex
  exact h.step (KeepT.of_below k) ⟨v, hv.below k⟩
theorem AI.turn {w0 W Wx W' : World} {base bo bm : Nat} {v1 v2 ov : Value} {cl : List (Int × Int)} {gl : List Int} {a r : Int} {O : List Int} {zs : List Zn} {row : Option Nat} (h : AI w0 W base bo bm v1 v2 cl gl a r ov O zs Wx) (hg : Wx.grownBy W' row) (hr : ∀ q, row = some q → W.heap.size ≤ q ∧ ∃ o : Obj, Wx.heap[q]? = some o ∧ o.isCells = false) : AI w0 W base bo bm v1 v2 cl gl a r ov O zs W' := by
  obtain ⟨v, hv⟩ := h.ex
  have hc := CellsKept.of_turn hg (fun q e => (hr q e).2)
  refine ⟨⟨v, hv.turn hg fun q e => ⟨by have := (hr q e).1; have := h.lo.1; omega, (hr q e).2⟩⟩, hc.blk h.mb, hc.row h.ob, ⟨hg.os.trans h.kp.os, hg.tape.trans h.kp.tape, hg.output.trans h.kp.output, Nat.le_trans h.kp.size hg.size, fun k hk h1 h2 => ?_⟩, h.lo⟩
  have e := h.kp.block k hk h1 h2
  refine (hg.block k (Nat.lt_of_lt_of_le hk h.kp.size) fun e' => ?_).trans e
  have := (hr k e'.symm).1
  omega
theorem AI.facts {w0 W Wx : World} {base bo bm : Nat} {v1 v2 ov : Value} {cl : List (Int × Int)} {gl : List Int} {a r : Int} {O : List Int} {zs : List Zn} (h : AI w0 W base bo bm v1 v2 cl gl a r ov O zs Wx) : Wx.cell? ⟨W.heap.size, 0, none⟩ = some (.pointer (some ⟨bm, 0, none⟩)) ∧ W.heap.size < Wx.heap.size ∧ bm < Wx.heap.size :=
  ⟨h.mb.cell rfl, h.mb.lt, Nat.lt_trans h.lo.2.2 h.mb.lt⟩
theorem AI.cells {w0 W Wx : World} {base bo bm : Nat} {v1 v2 ov : Value} {cl : List (Int × Int)} {gl : List Int} {a r : Int} {O : List Int} {zs : List Zn} (h : AI w0 W base bo bm v1 v2 cl gl a r ov O zs Wx) : Wx.cell? ⟨bm, 0, none⟩ = some v1 ∧ Wx.cell? ⟨bm, 1, none⟩ = some v2 ∧ Wx.cell? ⟨bm, 3, none⟩ = some (.int .i64 r) := by
  obtain ⟨v, hv⟩ := h.ex
  exact ⟨hv.maker.cell rfl, hv.maker.cell rfl, hv.maker.cell rfl⟩

/-- put, between two zones -/
theorem AI.put {w0 W Wx : World} {base bo bm : Nat} {v1 v2 ov : Value} {cl : List (Int × Int)} {gl : List Int} {a r : Int} {O : List Int} {zs : List Zn} (h : AI w0 W base bo bm v1 v2 cl gl a r ov O zs Wx) (hcl : cl.length ≤ 60000) (hgl : gl.length ≤ 60000) (hr1 : 1 ≤ r) (hr2 : r ≤ 1000) (hl : zs.length ≤ 100000)
    (k f u : Nat) (gv : Value) (news : List Int) (hk : k ≤ cl.length) (hrep : RepOK Wx gv news f u gl.length) :
    Calls Tryz.prog 80 #[.pointer (some ⟨bm, 0, none⟩), .int .i64 k, .int .i64 f, .int .i64 u, gv] Wx fun e W' => e = .returned (.tuple #[]) ∧ AI w0 W base bo bm v1 v2 cl gl a r ov O (zs ++ [ownZ cl gl a r k f u news]) W' ∧ KeepT base bo Wx W' := by
  obtain ⟨v, hv⟩ := h.ex
  refine (put_run hv hcl hgl hr1 hr2 hl k f u gv news hk hrep).mono ?_
  rintro e W' ⟨rfl, v', hp, hk⟩
  exact ⟨rfl, h.step hk ⟨v', hp⟩, hk⟩
theorem AI.in_ {w0 W Wx : World} {base bo bm : Nat} {v1 v2 ov : Value} {cl : List (Int × Int)} {gl : List Int} {a r : Int} {O : List Int} {zs : List Zn} (h : AI w0 W base bo bm v1 v2 cl gl a r ov O zs Wx) (hcl : cl.length ≤ 60000) (hgl : gl.length ≤ 60000) (hr1 : 1 ≤ r) (hr2 : r ≤ 1000) (hl : zs.length ≤ 100000)
    (i : Nat) (hi : i < cl.length) :
    Calls Tryz.prog 83 #[.pointer (some ⟨bm, 0, none⟩), .int .i64 i] Wx fun e W' => e = .returned (.tuple #[]) ∧ AI w0 W base bo bm v1 v2 cl gl a r ov O (zs ++ [inCZ cl gl a r i (cl.getD i (0, 0)).1 (cl.getD i (0, 0)).2]) W' ∧ KeepT base bo Wx W' := by
  obtain ⟨v, hv⟩ := h.ex
  refine (in_run hv hcl hgl hr1 hr2 hl i (cl.getD i (0, 0)).1 (cl.getD i (0, 0)).2 (by rw [List.getD_eq_getElem?_getD, List.getElem?_eq_getElem hi]; rfl)).mono ?_
  rintro e W' ⟨rfl, v', hp, hk⟩
  exact ⟨rfl, h.step hk ⟨v', hp⟩, hk⟩

end Go.Proofs.YtkkoooagamadjaaGreatDoor
