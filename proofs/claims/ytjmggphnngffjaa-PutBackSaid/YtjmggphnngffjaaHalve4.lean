/- splits of package halve hands back an iterator with its contract; the counting of pairs in a map. -/
import Derived.Test.YtjmggphnngffjaaHalve3
import Derived.Maps.OwnIn
import Derived.Maps.AppendAt
import Derived.WideKeyPair
import Derived.WideKeyEntry
namespace Go.Proofs.Ytjmggphnngffjaa
open Go.RowKit Go.Shelf
attribute [local go_sem] Oper.semAt_some

theorem room_of_none {F : Fence} (hd : F.depth = none) (k : Nat) : F.room k := fun d h => by rw [hd] at h; cases h
theorem round_any {F : Fence} (hd : F.depth = none) {m m' : Nat} {P : Program} {l : Nat} {f : FuncId} {tmps : Array Value} {assign body : Code} {w : World} {R : Ending → World → Prop}
    (h : RoundIn F m P l f tmps assign body w R) : RoundIn F m' P l f tmps assign body w R := ⟨h.1, fun c cs _ => h.2 c cs (room_of_none hd _)⟩
theorem yield_any {F : Fence} (hd : F.depth = none) {m : Nat} (m' : Nat) {P : Program} {l : Nat} {args : Array Value} {W : World} {R : Ending → World → Prop} (h : YieldAt F m P l args W R) : YieldAt F m' P l args W R := by
  obtain ⟨fn, tmps, assign, body, hy, hR⟩ := h
  exact ⟨fn, tmps, assign, body, hy, round_any hd hR⟩

set_option maxHeartbeats 1000000 in
/-- the function that makes the iterator -/
theorem splits_in (F : Fence) (n : Nat) (hf : F.fn 68) (hf2 : F.fn 49) (hro : F.round = none) (hn : 1 ≤ n)
    (hcap : ∀ m r W, CallsIn F m Try.prog 49 #[.int .i64 r] W fun e w' => e = .returned (.int .i64 (kap r)) ∧ W = w')
    (c r : Int) (hr : -9223372036854775807 ≤ r) (hr' : r ≤ 9223372036854775807) (w : World) :
    CallsIn F n Try.prog 68 #[.int .i64 c, .int .i64 r] w fun e w' =>
      e = .returned (.func (.func 78) #[] #[.pointer (some ⟨w.heap.size + 2, 0, none⟩), .pointer (some ⟨w.heap.size, 0, none⟩), .pointer (some ⟨w.heap.size + 1, 0, none⟩)]) ∧
        w' = ((w.alloc (.cells #[.int .i64 c] 3)).alloc (.cells #[.int .i64 r] 3)).alloc (.cells #[.int .i64 (kap (r - 1))] 3) := by
  refine callsIn_of_wp Try.func68 rfl hf ?_ hro
  simp only [Try.ntmps68, List.size_toArray, List.length_cons, List.length_nil, Nat.reduceAdd, Nat.reduceSub, Array.replicate_succ, Array.replicate_zero, List.push_toArray, List.append_toArray, List.nil_append, List.cons_append]
  gi_wp2_with (gi_at_call 49; refine (hcap _ _ _).mono ?_; rintro e w' ⟨rfl, rfl⟩)
  go_ret
  exact ⟨rfl, rfl⟩

/-- the iterator's contract -/
theorem splits_seq (F : Fence) (n : Nat) (hf : F.fn 78) (hf1 : F.fn 79) (hf2 : F.fn 49) (hro : F.round = none) (hd : F.depth = none) (hn : 2 ≤ n)
    (hcap : ∀ m r W, CallsIn F m Try.prog 49 #[.int .i64 r] W fun e w' => e = .returned (.int .i64 (kap r)) ∧ W = w')
    {B bo bh bg br : Nat} {h c kr : Nat} {r : Int} (w : World) (b1 : B ≤ bh) (b2 : B ≤ bg) (b3 : B ≤ br) (l1 : bh < w.heap.size) (l2 : bg < w.heap.size) (l3 : br < w.heap.size)
    (hh : h ≤ 1048575) (hc : c ≤ 2097151) (hkr : kap r = kr)
    (hc1 : w.cell? ⟨bh, 0, none⟩ = some (.int .i64 h)) (hc2 : w.cell? ⟨bg, 0, none⟩ = some (.int .i64 c)) (hc3 : w.cell? ⟨br, 0, none⟩ = some (.int .i64 r)) :
    SeqSt F n Try.prog 78 #[.pointer (some ⟨bh, 0, none⟩), .pointer (some ⟨bg, 0, none⟩), .pointer (some ⟨br, 0, none⟩)] (fun p : Int × Int => #[.int .i64 p.1, .int .i64 p.2]) B bo (adj (rawP c h (!decide (c < kr)))) w := by
  intro l J W hB hJ hJb hfr hY h0
  have hs := hB.size
  refine splits1_in F n hf hf1 hf2 hro hn hcap W (D := fun k => (B ≤ k ∧ k < w.heap.size) ∨ W.heap.size ≤ k) (.inl ⟨b1, l1⟩) (.inl ⟨b2, l2⟩) (.inl ⟨b3, l3⟩) (fun k hk => .inr hk) (hJb _ _ h0).2.1 (by omega) (by omega) (by omega) hJ ?_ ?_ hh hc hkr rfl h0
    ((hB.cell (p := ⟨bh, 0, none⟩) l1).trans hc1) ((hB.cell (p := ⟨bg, 0, none⟩) l2).trans hc2) ((hB.cell (p := ⟨br, 0, none⟩) l3).trans hc3)
  · rintro k (rfl | rfl | rfl | hk)
    · exact hfr _ b1
    · exact hfr _ b2
    · exact hfr _ b3
    · exact (hJb _ _ h0).2.2.2 k hk
  · intro pre x W1 hj hp
    exact yield_any hd _ (hY pre x W1 hj hp)

end Go.Proofs.Ytjmggphnngffjaa
