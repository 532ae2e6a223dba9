/- Small lemmas on slices that read, rows that are owned, and an append of one element: of any program; no condition beyond those that each states. Contracts of Cap, Clip, Merge of package halve and Cap, Clip of warderref21, for all whole numbers of 64 bits. A law for a range over an iterator that keeps state in cells of its own, where the body appends to one boxed slice: of any program; no condition beyond those that it states. The iterator of splits (package halve): its closure put, and the function over yield. -/
import Derived.Test.YtkkoooagamadjaaGreatDoorRows
import Derived.WalkKit
import Derived.ProofKit
import Derived.WalkSpells
import Derived.WalkLawsBesides
import Derived.Deep.QuietTactic
import Derived.BigQuiet
import Derived.Lib.Hide
import Derived.OpenShut
import Derived.RangeFuncNested
import Derived.RangeFuncBound
import Derived.RangeFuncCalls
import Derived.RangeFuncLeaves
import Derived.RangeFuncRecord
import Derived.Shelf.Abstract
import Derived.Shelf.RegionOpen
import Derived.OwnWalkIn
import Derived.TacticsInMore
import Derived.LoopNIn
import Derived.LoopIn

namespace Go.Proofs.YtkkoooagamadjaaGreatDoor
open Go.RowKit

theorem ret_int {k : IntKind} {a b : Int} (h : a = b) : Ending.returned (.int k a) = .returned (.int k b) := by rw [h]
theorem ret_bool {a b : Bool} (h : a = b) : Ending.returned (.bool a) = .returned (.bool b) := by rw [h]
theorem int_eq {k : IntKind} {a b : Int} (h : a = b) : Value.int k a = .int k b := by rw [h]

theorem bcell {W w1 : World} (hb : Below W.heap.size W w1) : (∀ b o, b < W.heap.size → w1.cell? ⟨b, o, none⟩ = W.cell? ⟨b, o, none⟩) ∧ (∀ b o, b < W.heap.size → w1.frozen? ⟨b, o, none⟩ = W.frozen? ⟨b, o, none⟩) :=
  ⟨fun b o h => hb.cell (p := ⟨b, o, none⟩) h, fun b o h => hb.frozen (p := ⟨b, o, none⟩) h⟩

/-- a slice value whose cells read as a list: of whatever memory -/
def Reads (w : World) (v : Value) (xs : List Value) : Prop :=
  (∃ ad cap, v = .slice ad 0 cap ∧ xs = []) ∨ ∃ b off cap, v = .slice (some ⟨b, off, none⟩) xs.length cap ∧ b < w.heap.size ∧ xs.length ≤ maxLen ∧ ∀ t x, xs[t]? = some x → w.cell? ⟨b, off + t, none⟩ = some x

theorem Reads.below {w w' : World} {v : Value} {xs : List Value} (h : Reads w v xs) {B : Nat} (hB : w.heap.size ≤ B) (hb : Below B w w') : Reads w' v xs := by
  rcases h with h | ⟨b, off, cap, hv, hlt, hm, hc⟩
  · exact .inl h
  · exact .inr ⟨b, off, cap, hv, Nat.lt_of_lt_of_le hlt hb.size, hm, fun t x hx => (hb.cell (p := ⟨b, off + t, none⟩) (Nat.lt_of_lt_of_le hlt hB)).trans (hc t x hx)⟩

/-- what is owned reads -/
theorem Reads.of_owns {w : World} {base : Nat} {e : TypeId} {v : Value} {n : Nat} {xs : List Value} (h : w.ownsRow base e 1 v n xs) : Reads w v xs := by
  have hl : xs.length = n := by have := h.1; omega
  rcases h.2 with ⟨rfl, h0⟩ | ⟨g, cap, cur, rfl, hb, hg, hn, hm, hs, ht⟩
  · exact .inl ⟨none, 0, rfl, List.length_eq_zero_iff.1 (by omega)⟩
  · refine .inr ⟨g, 0, cap, by rw [hl], (Array.getElem?_eq_some_iff.1 hg).1, by omega, fun t x hx => ?_⟩
    have hc := World.ownsRow.cellAt h t (by have := (List.getElem?_eq_some_iff.1 hx).1; omega)
    rw [Nat.zero_add, hc, hx]

theorem owns_mono {w : World} {base base' : Nat} {e : TypeId} {sz : Nat} {v : Value} {n : Nat} {xs : List Value} (h : w.ownsRow base e sz v n xs) (hb : base' ≤ base) : w.ownsRow base' e sz v n xs := by
  refine ⟨h.1, ?_⟩
  rcases h.2 with h0 | ⟨g, cap, cur, hv, hbb, r⟩
  · exact .inl h0
  · exact .inr ⟨g, cap, cur, hv, by omega, r⟩

/-- owned by whoever ended at B: nothing below w's end has turned behind -/
theorem owns_below {w w' : World} {base : Nat} {e : TypeId} {sz : Nat} {v : Value} {n : Nat} {xs : List Value} (h : w.ownsRow base e sz v n xs) (hb : Below w.heap.size w w') : w'.ownsRow base e sz v n xs :=
  h.kept (row := none) ⟨hb.os, hb.tape, hb.output, hb.size, fun k hk _ => hb.block k hk⟩ (by cases hv : v.ownBlock <;> simp)

theorem below_of_grown {w w' : World} {base : Nat} {row : Option Nat} (hg : w.grownBy w' row) (hr : ∀ k, row = some k → base ≤ k) (hb : base ≤ w.heap.size) : Below base w w' :=
  (Below.refl base w).grown hg hb hr

/-- 'out = append(out, x)': one element more, whatever its size -/
theorem app1 {P : Program} {ops : Array Oper} {rest : List Oper} {o : Oper} {a : Act} {Q : Exit → Act → World → Prop} (w0 : World) (us : Array Value) (hgd : o.guard = none) (s x : Operand) (t : TypeId)
    (ho : o.op = .call { callee := .builtin .append, args := #[s, x], argTypes := #[t, t] })
    (base : Nat) (e : TypeId) (z : Value) (size bytes : Nat) (ht : P.underlying t = some (.slice e)) (hinfo : (P.info? e).map (fun i => (i.zero, i.size, i.bytes)) = some (some z, size, bytes))
    (hzs : z.cells.size = size) (hsz : 0 < size) (hby : 0 < bytes)
    (v : Value) (n : Nat) (xs : List Value) (hs : a.eval s = v) (hown : w0.ownsRow base e size v n xs)
    {z0 : Nat} (hx : a.eval x = .slice (some ⟨z0, 0, none⟩) 1 1) (hz0 : z0 = w0.heap.size) (hl : us.size = size) (h1 : ∀ u ∈ us.toList, u.oneCell' = true)
    (hbytes : (n + 1) * bytes ≤ 140737488355328) (hbase : base ≤ w0.heap.size)
    (h : ∀ v' w', w'.ownsRow base e size v' (n + 1) (xs ++ us.toList) → w0.grownBy w' v.ownBlock → Below base w0 w' → wpList P ops Q rest (a.put o.dst v') w') :
    wpList P ops Q (o :: rest) a (w0.alloc (.cells us e)) := by
  subst hz0
  obtain ⟨i, hi, hz0, hz1, hz2⟩ := info_parts hinfo
  have h63 : n + 1 ≤ maxLen := by
    have : (n + 1) * 1 ≤ (n + 1) * bytes := Nat.mul_le_mul_left _ hby
    unfold maxLen; omega
  refine wpList_append_own _ hgd s x t ho base e i z size bytes ht hi hz0 hz1 hz2 hzs hsz v n xs hs (hown.alloc _) ⟨w0.heap.size, 0, none⟩ 1 1 us.toList hx (by simp [hl]) ?_ h1 h63 hbytes (by simp; omega) ?_
  · intro j u hj
    have : (⟨w0.heap.size, 0, none⟩ : Addr).add j = ⟨w0.heap.size, j, none⟩ := by unfold Addr.add; split <;> simp_all
    rw [this, World.cell?_alloc_at _ _ _ _ rfl]
    simpa using hj
  · intro v' w' hown' hg _
    have hg0 : w0.grownBy w' v.ownBlock := by
      refine ⟨hg.os, hg.tape, hg.output, Nat.le_trans (by simp) hg.size, fun k hk hne => ?_⟩
      rw [hg.block k (by simp; omega) hne]
      exact Below.heap_alloc w0 _ k hk
    exact h v' w' hown' hg0 (below_of_grown hg0 (fun k hk => (hown.lt k hk).1) hbase)

theorem Reads.of_row {w : World} {k : IntKind} {a : Option Addr} {len cap : Nat} {zs : List Int}
    (h : (a = none ∧ len = 0 ∧ cap = 0 ∧ zs = []) ∨ ∃ x, a = some x ∧ len ≤ cap ∧ cap ≤ maxLen ∧ zs.length = cap ∧ (∀ i, i < zs.length → w.cell? (x.add i) = some (.int k (zs.getD i 0))) ∧ ∀ n ∈ zs, (Lit.int k n).wf = true) :
    Reads w (.slice a len cap) ((zs.take len).map (Value.int k)) ∧ (zs.take len).length = len ∧ ∀ n ∈ zs.take len, (Lit.int k n).wf = true := by
  rcases h with ⟨rfl, rfl, rfl, rfl⟩ | ⟨x, rfl, hl, hm, hz, hc, hw⟩
  · exact ⟨.inl ⟨_, _, rfl, rfl⟩, rfl, by simp⟩
  · have hlen : (zs.take len).length = len := by simp; omega
    refine ⟨?_, hlen, fun n hn => hw n (List.mem_of_mem_take hn)⟩
    by_cases h0 : len = 0
    · subst h0; exact .inl ⟨_, _, rfl, by simp⟩
    · obtain ⟨b, off, rfl, hc'⟩ := ints_at hc (by omega)
      refine .inr ⟨b, off, cap, by rw [List.length_map, hlen], World.block_lt_of_cell? w _ (hc' 0 (by omega)), by simp; omega, fun t u hu => ?_⟩
      have ht : t < len := by have := (List.getElem?_eq_some_iff.1 hu).1; simp at this; omega
      rw [hc' t (by omega)]
      simp only [List.getElem?_map, List.getElem?_take, ht, if_true] at hu
      rw [List.getD_eq_getElem?_getD]
      rw [List.getElem?_eq_getElem (by omega)] at hu ⊢
      simpa using hu

theorem owns_shape {w : World} {base : Nat} {e : TypeId} {sz : Nat} {v : Value} {n : Nat} {xs : List Value} (h : w.ownsRow base e sz v n xs) (hn : 0 < n) :
    ∃ g cap, v = .slice (some ⟨g, 0, none⟩) n cap ∧ base ≤ g ∧ g < w.heap.size := by
  rcases h.2 with ⟨_, h0⟩ | ⟨g, cap, cur, hv, hb, hg, _⟩
  · omega
  · exact ⟨g, cap, hv, hb, (Array.getElem?_eq_some_iff.1 hg).1⟩

theorem owns_len {w : World} {base : Nat} {e : TypeId} {sz : Nat} {v : Value} {n : Nat} {xs : List Value} (h : w.ownsRow base e sz v n xs) : ∃ ad cap, v = .slice ad n cap := by
  rcases h.2 with ⟨rfl, h0⟩ | ⟨g, cap, cur, rfl, _⟩
  · exact ⟨none, 0, by rw [h0]⟩
  · exact ⟨_, _, rfl⟩

end Go.Proofs.YtkkoooagamadjaaGreatDoor

namespace Go.Proofs.YtkkoooagamadjaaGreatDoor
open Go.RowKit

/-- how much counts -/
def kapE (r : Int) : Nat := (min r 20).toNat
def kap (r : Int) : Nat := 2 ^ kapE r - 1
theorem kapE_le (r : Int) : kapE r ≤ 20 := by unfold kapE; omega
theorem kap_le (r : Int) : kap r ≤ 1048575 := by
  have h : (2 : Nat) ^ kapE r ≤ 2 ^ 20 := Nat.pow_le_pow_right (by omega) (kapE_le r)
  unfold kap; omega
theorem kap_low (r : Int) (h : r ≤ 0) : kap r = 0 := by unfold kap; rw [show kapE r = 0 by unfold kapE; omega]
theorem kap_high (r : Int) (h : 20 < r) : kap r = 1048575 := by unfold kap; rw [show kapE r = 20 by unfold kapE; omega]
def klip (g r : Int) : Int := max 0 (min g (kap r))
theorem klip_bd (g r : Int) : 0 ≤ klip g r ∧ klip g r ≤ kap r ∧ klip g r ≤ 1048575 := by have := kap_le r; unfold klip; omega
def merge (a b r : Int) : Int := klip (klip a r + klip b r + 1) r

theorem kap_mid (r : Int) (h0 : 0 < r) (h1 : r ≤ 20) : wrap64 (wrap64 (2 ^ r.toNat) - 1) = (kap r : Int) := by
  have hp : (2 : Nat) ^ r.toNat ≤ 2 ^ 20 := Nat.pow_le_pow_right (by omega) (by omega)
  have hp1 := Nat.one_le_two_pow (n := r.toNat)
  have e : ((2 : Int) ^ r.toNat) = ((2 ^ r.toNat : Nat) : Int) := by simp
  have hc : kapE r = r.toNat := by unfold kapE; omega
  unfold kap
  rw [e, hc]
  generalize (2 : Nat) ^ r.toNat = m at *
  rw [IntWalk.wrap64_in (m : Int) ⟨by omega, by omega⟩, IntWalk.wrap64_in _ ⟨by omega, by omega⟩]
  omega

set_option maxHeartbeats 400000 in
theorem cap_any (r : Int) (w : World) :
    Calls Tryz.prog 19 #[.int .i64 r] w fun e w' => e = .returned (.int .i64 (kap r)) ∧ w = w' := by
  rcases (show r ≤ 0 ∨ (0 < r ∧ r ≤ 20) ∨ 20 < r by omega) with h | ⟨h, h'⟩ | h
  · have H := Lib.hid (kap_low r h)
    go_enter Tryz.func19, Tryz.ntmps19
    go_wp2
    go_ret
    exact ⟨ret_int (by rw [H.out]; rfl), rfl⟩
  · have H := Lib.hid (kap_mid r h h')
    go_enter Tryz.func19, Tryz.ntmps19
    go_wp2
    go_ret
    exact ⟨ret_int H.out, rfl⟩
  · have H := Lib.hid (kap_high r h)
    go_enter Tryz.func19, Tryz.ntmps19
    go_wp2
    go_ret
    exact ⟨ret_int (by rw [H.out]; rfl), rfl⟩

set_option maxHeartbeats 400000 in
theorem clip_any (g r : Int) (w : World) :
    Calls Tryz.prog 112 #[.int .i64 g, .int .i64 r] w fun e w' => e = .returned (.int .i64 (klip g r)) ∧ w = w' := by
  obtain ⟨c, hc⟩ : ∃ c : Nat, kap r = c := ⟨_, rfl⟩
  have H : Hid (klip g r = max 0 (min g c)) := by unfold Hid klip; rw [hc]
  have HC := Lib.hid hc
  clear hc
  go_enter Tryz.func112, Tryz.ntmps112
  go_wp2_with (go_at_call 19; refine (cap_any r _).mono ?_; rintro e w' ⟨rfl, rfl⟩; rw [HC.out])
  all_goals
    go_ret
    exact ⟨ret_int (by rw [H.out]; omega), rfl⟩

set_option maxHeartbeats 400000 in
theorem merge_any (a b r : Int) (w : World) :
    Calls Tryz.prog 87 #[.int .i64 a, .int .i64 b, .int .i64 r] w fun e w' => e = .returned (.int .i64 (merge a b r)) ∧ w = w' := by
  have h1 := klip_bd a r
  have h2 := klip_bd b r
  have H : Hid (merge a b r = klip (klip a r + klip b r + 1) r) := Lib.hid rfl
  obtain ⟨x, hx⟩ : ∃ x, klip a r = x := ⟨_, rfl⟩
  obtain ⟨y, hy⟩ : ∃ y, klip b r = y := ⟨_, rfl⟩
  rw [hx] at h1 H; rw [hy] at h2 H
  have HX := Lib.hid hx; have HY := Lib.hid hy
  clear hx hy
  obtain ⟨hx0, _, hx1⟩ := h1
  obtain ⟨hy0, _, hy1⟩ := h2
  go_enter Tryz.func87, Tryz.ntmps87
  go_wp2_with fail
  refine (clip_any a r _).mono ?_
  rintro e w' ⟨rfl, rfl⟩
  rw [HX.out]
  go_wp2_with fail
  refine (clip_any b r _).mono ?_
  rintro e w' ⟨rfl, rfl⟩
  rw [HY.out]
  go_wp2_with fail
  refine (clip_any _ r _).mono ?_
  rintro e w' ⟨rfl, rfl⟩
  go_wp2
  go_ret
  exact ⟨ret_int (by rw [H.out]), rfl⟩

theorem kap_succ (k : Nat) (h : k < 20) : kap (k + 1 : Nat) = 2 * kap k + 1 := by
  unfold kap
  rw [show kapE ((k + 1 : Nat) : Int) = k + 1 by unfold kapE; omega, show kapE (k : Int) = k by unfold kapE; omega, Nat.pow_succ]
  have := Nat.one_le_two_pow (n := k)
  omega

set_option maxHeartbeats 1000000 in
theorem rcap_any (r : Int) (w : World) :
    Calls Tryz.prog 33 #[.int .i64 r] w fun e w' => e = .returned (.int .i64 (kap r)) ∧ w = w' := by
  have H0 : Hid (kap 0 = 0) := by unfold Hid; exact kap_low 0 (by omega)
  have H20 : Hid (∀ k : Nat, k = kapE r → kap r = kap k) := by
    unfold Hid; intro k hk; unfold kap; rw [hk]; have := kapE_le r; rw [show kapE (kapE r : Int) = kapE r by unfold kapE at *; omega]
  obtain ⟨t, ht⟩ : ∃ t : Nat, t = kapE r := ⟨_, rfl⟩
  have ht20 : t ≤ 20 := by rw [ht]; exact kapE_le r
  have HT := Lib.hid ht
  have hr : (0 < r ∧ (t : Int) = min r 20) ∨ (r ≤ 0 ∧ t = 0) := by unfold kapE at ht; omega
  clear ht
  go_enter Tryz.func33, Tryz.ntmps33
  go_wp2
  go_loop [3, 4] (fun n i => ∃ (k m : Nat), k ≤ t ∧ i = .int .i64 k ∧ n = .int .i64 m ∧ m ≤ 1048575 ∧ Hid (m = kap k)) (fun _ i => t - (intOf i).toNat)
  case atStart => exact ⟨0, 0, Nat.zero_le _, rfl, rfl, by omega, H0.out.symm⟩
  case round =>
    obtain ⟨k, m, hk, rfl, rfl, hm, HM⟩ := hrel
    by_cases hlt : k < t
    · have HS : Hid (2 * m + 1 = kap (k + 1 : Nat)) := by unfold Hid; rw [HM.out, kap_succ k (by omega)]
      have hm' : 2 * m + 1 ≤ 1048575 := by rw [HS.out]; exact kap_le _
      have h1 : (k : Int) < r := by omega
      have h2 : (k : Int) < 20 := by omega
      clear hr
      go_wp2
      go_round
      case rel => exact ⟨k + 1, 2 * m + 1, by omega, by go_num, int_eq (by omega), hm', HS⟩
      case measure => simp [intOf]; omega
    · obtain rfl : k = t := by omega
      have HR : Hid ((m : Int) = kap r) := by unfold Hid; rw [HM.out, H20.out k HT.out]
      by_cases h1 : (k : Int) < r
      · have h2 : ¬ (k : Int) < 20 := by omega
        clear hr
        go_wp2
        go_ret
        exact ⟨ret_int (by rw [HR.out]), rfl⟩
      · clear hr
        go_wp2
        go_ret
        exact ⟨ret_int (by rw [HR.out]), rfl⟩

set_option maxHeartbeats 400000 in
theorem rclip_any (g r : Int) (w : World) :
    Calls Tryz.prog 99 #[.int .i64 g, .int .i64 r] w fun e w' => e = .returned (.int .i64 (klip g r)) ∧ w = w' := by
  obtain ⟨c, hc⟩ : ∃ c : Nat, kap r = c := ⟨_, rfl⟩
  have H : Hid (klip g r = max 0 (min g c)) := by unfold Hid klip; rw [hc]
  have HC := Lib.hid hc
  clear hc
  by_cases hg : g < 0
  · have H' : Hid (klip g r = 0) := by unfold Hid; rw [H.out]; omega
    go_enter Tryz.func99, Tryz.ntmps99
    go_wp2
    go_ret
    exact ⟨ret_int (by rw [H'.out]), rfl⟩
  · have H' : Hid (klip g r = min g c) := by unfold Hid; rw [H.out]; omega
    go_enter Tryz.func99, Tryz.ntmps99
    go_wp2_with (go_at_call 33; refine (rcap_any r _).mono ?_; rintro e w' ⟨rfl, rfl⟩; rw [HC.out])
    all_goals
      go_ret
      exact ⟨ret_int (by rw [H'.out]; omega), rfl⟩

end Go.Proofs.YtkkoooagamadjaaGreatDoor

namespace Go.Proofs.YtkkoooagamadjaaGreatDoor
open Go.RowKit

/-- block r is not the row of the slice that box bo holds -/
def Free (bo : Nat) (W : World) (r : Nat) : Prop := ∀ v, W.cell? ⟨bo, 0, none⟩ = some v → v.ownBlock ≠ some r

theorem Free.grown {bo r : Nat} {A B : World} {row : Option Nat} (h : Free bo A r) (hg : A.grownBy B row) (hb : bo < A.heap.size) (hr : row ≠ some bo) : Free bo B r := fun v hv =>
  h v ((World.cell?_of_block (a := ⟨bo, 0, none⟩) (hg.block bo hb (fun e => hr e.symm))).symm.trans hv)

/-- what a round keeps: whatever lies in D and is not the row of the slice in bo -/
structure Harb (D : Nat → Prop) (bo : Nat) (W W' : World) : Prop where
  size : W.heap.size ≤ W'.heap.size
  same : ∀ k, D k → k < W.heap.size → Free bo W k → W'.heap[k]? = W.heap[k]? ∧ Free bo W' k

theorem Harb.refl (D : Nat → Prop) (bo : Nat) (W : World) : Harb D bo W W := ⟨Nat.le_refl _, fun _ _ _ h => ⟨rfl, h⟩⟩
theorem Harb.trans {D : Nat → Prop} {bo : Nat} {X Y Z : World} (h : Harb D bo X Y) (k : Harb D bo Y Z) : Harb D bo X Z :=
  ⟨Nat.le_trans h.size k.size, fun i hB hi hf => by
    obtain ⟨h1, h2⟩ := h.same i hB hi hf
    obtain ⟨k1, k2⟩ := k.same i hB (Nat.lt_of_lt_of_le hi h.size) h2
    exact ⟨k1.trans h1, k2⟩⟩
theorem Harb.mono {D D' : Nat → Prop} {bo : Nat} {X Y : World} (h : Harb D bo X Y) (hB : ∀ k, D' k → D k) : Harb D' bo X Y := ⟨h.size, fun i hi => h.same i (hB i hi)⟩

/-- a statement that abides new blocks and the turn of one block from B on that is not the row of the slice in bo -/
def Abides' {β : Type} (B bo : Nat) (I : β → World → Prop) : Prop :=
  ∀ s A A' row, I s A → A.grownBy A' row → (∀ r, row = some r → B ≤ r ∧ Free bo A r) → I s A'

/-- the contract of an iterator that keeps state in cells of its own and is never told to stop -/
def SeqSt {α : Type} (F : Fence) (n : Nat) (P : Program) (g : Nat) (lb : Array Value) (encs : α → Array Value) (B bo : Nat) (xs : List α) (w : World) : Prop :=
  ∀ (l : Nat) (J : List α → World → Prop) (W : World), Below w.heap.size w W → Abides' W.heap.size bo J → (∀ s A, J s A → bo < A.heap.size ∧ bo < W.heap.size ∧ W.heap.size ≤ A.heap.size ∧ ∀ r, A.heap.size ≤ r → Free bo A r) → (∀ k, B ≤ k → Free bo W k) →
    (∀ pre x W1, J pre W1 → pre ++ [x] <+: xs → YieldAt F (n - 1) P l (encs x) W1 fun e W' => e = .returned (.bool true) ∧ J (pre ++ [x]) W' ∧ Harb (fun k => (B ≤ k ∧ k < w.heap.size) ∨ W.heap.size ≤ k) bo W1 W') →
    J [] W →
    CallsIn F n P g (#[.func (.yield l) #[] #[]] ++ lb) W fun e W' => (∃ v, e = .returned v) ∧ J xs W'

def stPost {α : Type} (B bo : Nat) (I : List α → World → Prop) (xs : List α) (W : World) : Exit → Act → World → Prop
  | .normal, _, W' => Harb (fun k => B ≤ k) bo W W' ∧ I xs W'
  | .ret, _, _ => False
  | .exit _, _, _ => False
  | .goto _, _, _ => False
  | .panic _, _, _ => False
  | .outgrown, _, _ => False

variable {F : Fence} {n : Nat} {P : Program}

theorem wpIn_rangeFunc_st {α : Type} {g : Operand} {ps : Array Tmp} {assign body : Code} {Q : Exit → Act → World → Prop} {a : Act} {w : World}
    (hro : F.round = none) (h1 : 1 ≤ n) {gf : Nat} {lb : Array Value} (hg : a.eval g = .func (.func gf) #[] lb) (hFg : F.fn gf) (eg : ∀ args w, (callFunc gf args).run P w = .ok (.enter gf args) w)
    {encs : α → Array Value} (B bo : Nat) {xs : List α} {w0 : World} (hseq : SeqSt F (n - 1) P gf lb encs B bo xs w0)
    (hb0 : Below w0.heap.size w0 w) (hps : ∀ x, (encs x).size = ps.size) (hbo : bo < w.heap.size) (hB0 : B ≤ w0.heap.size) (hfr : ∀ k, B ≤ k → Free bo w k)
    (I : List α → World → Prop) (hI : Abides' w.heap.size bo I) (hIf : ∀ s A, I s A → ∀ r, A.heap.size ≤ r → Free bo A r) (h0 : I [] w) (a₁ : α → Act)
    (hassign : ∀ (l : Nat) (x : α) (W : World) (K : Act → World → Prop), K (a₁ x) W →
      assign.wpIn (F.inRound l) (n - 1 - 1) P (Exit.then K (fun _ _ _ => False)) { tmps := (ps.zip (encs x)).foldl (fun t (p, v) => t.setIfInBounds p v) a.tmps, defers := [] } W)
    (hbody : ∀ (l : Nat) (pre : List α) (x : α) (W : World), w.heap.size ≤ W.heap.size → I pre W → pre ++ [x] <+: xs → body.wpIn (F.inRound l) (n - 1 - 1) P (stPost B bo I (pre ++ [x]) W) (a₁ x) W)
    (hdone : ∀ (D : Nat) (W : World), w.heap.size ≤ D → Free bo W D → I xs W → W.heap[D]? = some (.deferred (some [])) → Q .normal { a with defers := { target := .collected D, args := #[] } :: a.defers } W) :
    (Code.rangeFunc g ps assign body).wpIn F n P Q a w := by
  refine wpIn_rangeFunc ?_
  intro fn hfn
  rw [hro]
  obtain ⟨rec, hrec⟩ : ∃ rec : LoopState → Option Code → Loop, rec = fun st pe => { state := st, pending := pe, fn, tmps := a.tmps, params := ps, assign, body, defers := w.heap.size } := ⟨_, rfl⟩
  obtain ⟨W1, hW1⟩ : ∃ W1, (w.alloc (.deferred (some []))).alloc (.loop (rec .ready none)) = W1 := ⟨_, rfl⟩
  have hs1 : W1.heap.size = w.heap.size + 2 := by rw [← hW1]; simp
  have hL1 : W1.heap[w.heap.size + 1]? = some (.loop (rec .ready none)) := by
    rw [← hW1]; have := World.alloc_heap_new (w.alloc (.deferred (some []))) (.loop (rec .ready none)); rwa [World.size_alloc] at this
  have hK1 : W1.heap[w.heap.size]? = some (.deferred (some [])) := by
    rw [← hW1]; exact (Below.heap_alloc _ _ _ (by simp)).trans (World.alloc_heap_new w _)
  have hIalloc : ∀ s A o, I s A → I s (A.alloc o) := fun s A o h => hI s A _ none h (World.grownBy_alloc A o none) (fun r e => by cases e)
  have hIput : ∀ s A r o, I s A → w.heap.size ≤ r → Free bo A r → I s (A.putObj r o) := fun s A r o h hr hf => hI s A _ (some r) h (grownBy_putObj' A r o) (fun r' e => by cases e; exact ⟨hr, hf⟩)
  have hfput : ∀ A r k o, Free bo A k → bo < A.heap.size → r ≠ bo → Free bo (A.putObj r o) k := fun A r k o hf hb hr => hf.grown (grownBy_putObj' A r o) hb (fun e => hr (by cases e; rfl))
  have hI1 : I [] W1 := by rw [← hW1]; exact hIalloc _ _ _ (hIalloc _ _ _ h0)
  have hfa : ∀ A o k, bo < A.heap.size → Free bo A k → Free bo (A.alloc o) k := fun A o k hb hf => hf.grown (World.grownBy_alloc A o none) hb (by simp)
  have hB0' : w0.heap.size ≤ w.heap.size := hb0.size
  have hF1 : ∀ k, B ≤ k → Free bo W1 k := fun k hk => by
    rw [← hW1]; exact hfa _ _ _ (by simp; omega) (hfa _ _ _ hbo (hfr k hk))
  have hb1 : Below w0.heap.size w0 W1 := by
    rw [← hW1]; exact hb0.trans ((((Below.refl _ w).alloc (Nat.le_refl _) _).alloc (by simp) _).mono hb0.size)
  refine ⟨w.heap.size + 1, [{ target := .collected w.heap.size, args := #[] }], W1, { target := .fn (.func gf) lb, args := #[.func (.yield (w.heap.size + 1)) #[] #[]] }, W1, gf,
    #[.func (.yield (w.heap.size + 1)) #[] #[]] ++ lb, W1, ?_, ?_, ?_, ?_, fun _ => h1, ?_⟩
  · rw [← hW1, hrec]; exact run_enterLoop_outer _ _ _ _ _
  · simp only [resolve, hg]
    simp [go_sem]
  · intro f' hf'; simp [Target.leads] at hf'; subst hf'; exact hFg
  · simp [invoke, go_sem, eg]
  · refine (hseq (w.heap.size + 1)
      (fun pre W => I pre W ∧ W.heap[w.heap.size + 1]? = some (.loop (rec .ready none)) ∧ W.heap[w.heap.size]? = some (.deferred (some [])) ∧ Free bo W (w.heap.size + 1) ∧ Free bo W w.heap.size)
      W1 hb1 ?_ ?_ hF1 ?_ ⟨hI1, hL1, hK1, hF1 _ (by omega), hF1 _ (by omega)⟩).mono ?_
    · rintro s A A' row ⟨hi, hl, hk, f1, f2⟩ hg' hr
      have hlt : w.heap.size + 1 < A.heap.size := (Array.getElem?_eq_some_iff.1 hl).1
      have hne : ∀ k, k < W1.heap.size → some k ≠ row := fun k hk e => by have := (hr k e.symm).1; omega
      refine ⟨hI s A A' row hi hg' (fun r e => ⟨by have := (hr r e).1; omega, (hr r e).2⟩), (hg'.block _ hlt (hne _ (by omega))).trans hl, (hg'.block _ (by omega) (hne _ (by omega))).trans hk, ?_, ?_⟩
      · exact f1.grown hg' (by omega) (fun e => hne bo (by omega) e.symm)
      · exact f2.grown hg' (by omega) (fun e => hne bo (by omega) e.symm)
    · rintro s A ⟨hi, hl, hk, f1, f2⟩
      have hlt : w.heap.size + 1 < A.heap.size := (Array.getElem?_eq_some_iff.1 hl).1
      exact ⟨by omega, by omega, by omega, hIf s A hi⟩
    · -- ONE ROUND
      rintro pre x W ⟨hi, hl, hk, f1, f2⟩ hpre
      have hlt : w.heap.size + 1 < W.heap.size := (Array.getElem?_eq_some_iff.1 hl).1
      have hy := run_yield (P := P) (args := encs x) hl (by rw [hrec]; exact hps x)
      rw [hrec] at hy
      refine ⟨fn, _, assign, body, hy, roundIn_of_wpIn hfn (hassign _ x W _ ⟨_, run_beginRound hl (by rw [hrec]), ?_⟩)⟩
      have hl2 : (W.putObj (w.heap.size + 1) (.loop { rec .ready none with state := .busy })).heap[w.heap.size + 1]? = some (.loop { rec .ready none with state := .busy }) := World.putObj_heap_same hlt
      have hk2 : (W.putObj (w.heap.size + 1) (.loop { rec .ready none with state := .busy })).heap[w.heap.size]? = some (.deferred (some [])) := (World.putObj_heap_other (by omega)).trans hk
      have hsz2 : (W.putObj (w.heap.size + 1) (.loop { rec .ready none with state := .busy })).heap.size = W.heap.size := World.putObj_size
      have g1 : Free bo (W.putObj (w.heap.size + 1) (.loop { rec .ready none with state := .busy })) (w.heap.size + 1) := hfput _ _ _ _ f1 (by omega) (by omega)
      have g2 : Free bo (W.putObj (w.heap.size + 1) (.loop { rec .ready none with state := .busy })) w.heap.size := hfput _ _ _ _ f2 (by omega) (by omega)
      have hw2 : Harb (fun k => (B ≤ k ∧ k < w0.heap.size) ∨ W1.heap.size ≤ k) bo W (W.putObj (w.heap.size + 1) (.loop { rec .ready none with state := .busy })) :=
        ⟨by rw [hsz2]; exact Nat.le_refl _, fun k hB hk hf => ⟨World.putObj_heap_other (by omega), hfput _ _ _ _ hf (by omega) (by omega)⟩⟩
      refine wpIn_mono (hbody _ pre x _ (by rw [hsz2]; omega) (hIput _ _ _ _ hi (by omega) f1) hpre) ?_
      rintro e a3 W3 hp
      cases e with
      | normal =>
        obtain ⟨hk3, hi3⟩ := hp
        obtain ⟨e3, g3⟩ := hk3.same (w.heap.size + 1) (by omega) (by rw [hsz2]; omega) g1
        obtain ⟨e4, g4⟩ := hk3.same w.heap.size (by omega) (by rw [hsz2]; omega) g2
        have hl3 := e3.trans hl2
        have hk3' := e4.trans hk2
        have hr := run_endRound (P := P) none hl3
        have hlt3 : w.heap.size + 1 < W3.heap.size := (Array.getElem?_eq_some_iff.1 hl3).1
        refine ⟨_, _, hr, rfl, ⟨hIput _ _ _ _ hi3 (by omega) g3, ?_, (World.putObj_heap_other (by omega)).trans hk3', hfput _ _ _ _ g3 (by omega) (by omega), hfput _ _ _ _ g4 (by omega) (by omega)⟩, ?_⟩
        · rw [World.putObj_heap_same hlt3, hrec]; rfl
        · refine (hw2.trans (hk3.mono (fun k hk => by omega))).trans ⟨by rw [World.putObj_size]; exact Nat.le_refl _, fun k hB hk hf => ⟨World.putObj_heap_other (by omega), hfput _ _ _ _ hf (by omega) (by omega)⟩⟩
      | ret => exact hp.elim
      | exit id => exact hp.elim
      | goto t => exact hp.elim
      | panic ch => exact hp.elim
      | outgrown => exact hp.elim
    · -- BEHIND THE ITERATOR
      rintro e W2 ⟨⟨v, rfl⟩, hi, hl, hk, f1, f2⟩
      have hlt : w.heap.size + 1 < W2.heap.size := (Array.getElem?_eq_some_iff.1 hl).1
      exact ⟨none, _, by have := run_endLoop (P := P) hl (by rw [hrec]; simp); rw [hrec] at this; exact this, hdone _ _ (Nat.le_refl _) (hfput _ _ _ _ f2 (by omega) (by omega)) (hIput _ _ _ _ hi (by omega) f1) ((World.putObj_heap_other (by omega)).trans hk)⟩

end Go.Proofs.YtkkoooagamadjaaGreatDoor

namespace Go.Proofs.YtkkoooagamadjaaGreatDoor
open Go.RowKit Go.Shelf
attribute [local go_sem] Oper.semAt_some

theorem eq_pair (a b c d : Int) (w : World) : (Op.equalIn 10000 98 (.agg #[.int .i64 a, .int .i64 b]) (.agg #[.int .i64 c, .int .i64 d])).run Tryz.prog w = .ok (a == c && b == d) w := by
  have u3 := Tryz.underlying3
  have a3 := Tryz.isAgg3
  have z3 := Tryz.sizeOf3
  rw [show (10000 : Nat) = 9999 + 1 from rfl, Op.equalIn]
  simp only [Sem.run_bind, run_underlying Tryz.underlying98, Result.andThen_ok]
  simp only [Std.Legacy.Range.forIn_eq_forIn_range', Std.Legacy.Range.size, Nat.sub_zero, Nat.add_sub_cancel, Nat.div_one, List.range'_succ, List.range'_zero, List.forIn_cons, List.forIn_nil]
  go_simp
  by_cases h1 : a = c <;> by_cases h2 : b = d <;> simp [h1, h2]
attribute [local go_sem] eq_pair

set_option maxRecDepth 10000 in
set_option maxHeartbeats 1000000 in
theorem put_same (F : Fence) (n : Nat) (hf : F.fn 139) (hro : F.round = none) (bh L by' : Nat) (a b h na nb : Int) (W : World)
    (ha : (a ≤ h ∧ na = a) ∨ (h < a ∧ na = h)) (hb : (b ≤ h ∧ nb = b) ∨ (h < b ∧ nb = h))
    (hh : W.cell? ⟨bh, 0, none⟩ = some (.int .i64 h)) (hx : W.cell? ⟨L, 0, none⟩ = some (.int .i64 na)) (hy : W.cell? ⟨L, 1, none⟩ = some (.int .i64 nb)) (hL : L < W.heap.size) :
    CallsIn F n Tryz.prog 139 #[.int .i64 a, .int .i64 b, .pointer (some ⟨bh, 0, none⟩), .pointer (some ⟨L, 0, none⟩), .pointer (some ⟨by', 0, none⟩)] W
      fun e w' => e = .returned (.bool true) ∧ w' = W.alloc (.cells #[.int .i64 na, .int .i64 nb] 98) := by
  rcases ha with ⟨ha, rfl⟩ | ⟨ha, rfl⟩ <;> rcases hb with ⟨hb, rfl⟩ | ⟨hb, rfl⟩
  all_goals
    refine callsIn_of_wp Tryz.func139 rfl hf ?_ hro
    simp only [Tryz.ntmps139, List.size_toArray, List.length_cons, List.length_nil, Nat.reduceAdd, Nat.reduceSub, Array.replicate_succ, Array.replicate_zero, List.push_toArray, List.append_toArray, List.nil_append, List.cons_append]
    gi_wp2
    go_ret
    exact ⟨rfl, rfl⟩

set_option maxRecDepth 10000 in
set_option maxHeartbeats 1000000 in
theorem put_new (F : Fence) (n : Nat) (hf : F.fn 139) (hro : F.round = none) (bh L by' l : Nat) (a b h na nb x y : Int) (W : World) {R : Ending → World → Prop}
    (ha : (a ≤ h ∧ na = a) ∨ (h < a ∧ na = h)) (hb : (b ≤ h ∧ nb = b) ∨ (h < b ∧ nb = h)) (hne : (na == x && nb == y) = false)
    (hh : W.cell? ⟨bh, 0, none⟩ = some (.int .i64 h)) (hx : W.cell? ⟨L, 0, none⟩ = some (.int .i64 x)) (hy : W.cell? ⟨L, 1, none⟩ = some (.int .i64 y)) (hyl : W.cell? ⟨by', 0, none⟩ = some (.func (.yield l) #[] #[]))
    (hz0 : W.frozen? ⟨L, 0, none⟩ = false) (hz1 : W.frozen? ⟨L, 1, none⟩ = false) (hL : L < W.heap.size) (hby : by' < W.heap.size) (hd2 : by' ≠ L)
    (hY : YieldAt F (n - 1) Tryz.prog l #[.int .i64 na, .int .i64 nb] (((W.setCell ⟨L, 0, none⟩ (.int .i64 na)).setCell ⟨L, 1, none⟩ (.int .i64 nb)).alloc (.cells #[.int .i64 na, .int .i64 nb] 98)) R) (hr : ∀ e w', R e w' → ∃ v, e = .returned (.bool v)) (hn : 1 ≤ n) :
    CallsIn F n Tryz.prog 139 #[.int .i64 a, .int .i64 b, .pointer (some ⟨bh, 0, none⟩), .pointer (some ⟨L, 0, none⟩), .pointer (some ⟨by', 0, none⟩)] W R := by
  obtain ⟨fn, tmps, assign, body, hyy, hR⟩ := hY
  rcases ha with ⟨ha, rfl⟩ | ⟨ha, rfl⟩ <;> rcases hb with ⟨hb, rfl⟩ | ⟨hb, rfl⟩
  all_goals
    refine callsIn_of_wp Tryz.func139 rfl hf ?_ hro
    simp only [Tryz.ntmps139, List.size_toArray, List.length_cons, List.length_nil, Nat.reduceAdd, Nat.reduceSub, Array.replicate_succ, Array.replicate_zero, List.push_toArray, List.append_toArray, List.nil_append, List.cons_append]
    gi_wp2
    refine hR.mono ?_
    intro e w' hRe
    obtain ⟨v, rfl⟩ := hr e w' hRe
    dsimp only
    gi_wp2
    exact hRe

/-- the last pair that came -/
def lastP (pre : List (Int × Int)) : Int × Int := pre.getLast?.getD (-1, -1)
/-- a pair comes, if it is not the last one -/
def adjA (pre : List (Int × Int)) (p : Int × Int) : List (Int × Int) := if lastP pre = p then pre else pre ++ [p]
theorem adjA_last (pre : List (Int × Int)) (p : Int × Int) : lastP (adjA pre p) = p := by
  unfold adjA; split
  · assumption
  · simp [lastP]
def adj (l : List (Int × Int)) : List (Int × Int) := l.foldl adjA []
theorem adj_snoc (l : List (Int × Int)) (p : Int × Int) : adj (l ++ [p]) = adjA (adj l) p := by simp [adj]
theorem adjA_pre (pre : List (Int × Int)) (p : Int × Int) : pre <+: adjA pre p := by
  unfold adjA; split
  · exact List.prefix_refl _
  · exact List.prefix_append _ _
theorem adj_pre (l r : List (Int × Int)) : adj l <+: adj (l ++ r) := by
  induction r generalizing l with
  | nil => simp
  | cons p r ih =>
    have h1 := adjA_pre (adj l) p
    rw [← adj_snoc] at h1
    have h2 := ih (l ++ [p])
    simp only [List.append_assoc, List.cons_append, List.nil_append] at h2
    exact h1.trans h2

/-- the boxes of the iterator, and what they hold -/
structure It (bo bh bg br bY L l : Nat) (h c r x y : Int) (W : World) : Prop where
  bo_lt : bo < W.heap.size
  bh_lt : bh < W.heap.size
  bg_lt : bg < W.heap.size
  br_lt : br < W.heap.size
  bY_lt : bY < W.heap.size
  L_lt : L < W.heap.size
  bhv : W.cell? ⟨bh, 0, none⟩ = some (.int .i64 h)
  bgv : W.cell? ⟨bg, 0, none⟩ = some (.int .i64 c)
  brv : W.cell? ⟨br, 0, none⟩ = some (.int .i64 r)
  bYv : W.cell? ⟨bY, 0, none⟩ = some (.func (.yield l) #[] #[])
  l0 : W.cell? ⟨L, 0, none⟩ = some (.int .i64 x)
  l1 : W.cell? ⟨L, 1, none⟩ = some (.int .i64 y)
  z0 : W.frozen? ⟨L, 0, none⟩ = false
  z1 : W.frozen? ⟨L, 1, none⟩ = false
  fh : Free bo W bh
  fg : Free bo W bg
  fr : Free bo W br
  fY : Free bo W bY
  fL : Free bo W L

theorem It.harb {bo bh bg br bY L l : Nat} {h c r x y : Int} {W W' : World} {D : Nat → Prop} (t : It bo bh bg br bY L l h c r x y W) (hh : Harb D bo W W') (d1 : D bh) (d2 : D bg) (d3 : D br) (d4 : D bY) (d5 : D L) :
    It bo bh bg br bY L l h c r x y W' := by
  obtain ⟨e1, f1⟩ := hh.same bh d1 t.bh_lt t.fh
  obtain ⟨e2, f2⟩ := hh.same bg d2 t.bg_lt t.fg
  obtain ⟨e3, f3⟩ := hh.same br d3 t.br_lt t.fr
  obtain ⟨e4, f4⟩ := hh.same bY d4 t.bY_lt t.fY
  obtain ⟨e5, f5⟩ := hh.same L d5 t.L_lt t.fL
  have hs := hh.size
  exact ⟨Nat.lt_of_lt_of_le t.bo_lt hs, Nat.lt_of_lt_of_le t.bh_lt hs, Nat.lt_of_lt_of_le t.bg_lt hs, Nat.lt_of_lt_of_le t.br_lt hs, Nat.lt_of_lt_of_le t.bY_lt hs, Nat.lt_of_lt_of_le t.L_lt hs,
    (World.cell?_of_block (a := ⟨bh, 0, none⟩) e1).trans t.bhv, (World.cell?_of_block (a := ⟨bg, 0, none⟩) e2).trans t.bgv, (World.cell?_of_block (a := ⟨br, 0, none⟩) e3).trans t.brv, (World.cell?_of_block (a := ⟨bY, 0, none⟩) e4).trans t.bYv,
    (World.cell?_of_block (a := ⟨L, 0, none⟩) e5).trans t.l0, (World.cell?_of_block (a := ⟨L, 1, none⟩) e5).trans t.l1, (World.frozen?_of_block (a := ⟨L, 0, none⟩) e5).trans t.z0, (World.frozen?_of_block (a := ⟨L, 1, none⟩) e5).trans t.z1, f1, f2, f3, f4, f5⟩

theorem Harb.alloc (D : Nat → Prop) {bo : Nat} {W : World} (h : bo < W.heap.size) (o : Obj) : Harb D bo W (W.alloc o) :=
  ⟨by simp, fun k _ hk hf => ⟨Below.heap_alloc W o k hk, hf.grown (World.grownBy_alloc W o none) h (by simp)⟩⟩
theorem Harb.setCell (D : Nat → Prop) {bo b i : Nat} {W : World} (h : bo < W.heap.size) (hb : b ≠ bo) (hD : ¬ D b) (v : Value) : Harb D bo W (W.setCell ⟨b, i, none⟩ v) :=
  ⟨(KeepsWalks.setCell W _ v).size, fun k hk _ hf => ⟨Below.heap_setCell _ _ _ k (fun e => hD (by simp at e; rw [← e]; exact hk)),
    hf.grown (row := some b) ⟨rfl, rfl, rfl, (KeepsWalks.setCell W _ v).size, fun k _ hk => Below.heap_setCell _ _ _ k (fun e => hk (by rw [e]))⟩ h (fun e => hb (by cases e; rfl))⟩⟩

end Go.Proofs.YtkkoooagamadjaaGreatDoor
