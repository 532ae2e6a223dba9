/- slices.Backward over a slice of numbers: the iterator and its contract. -/
import Derived.Test.YtjmggphnngffjaaPutD
import Derived.Test.YtjmggphnngffjaaHalve4
import Derived.RangeFuncWrites
namespace Go.Proofs.Ytjmggphnngffjaa
open Go.RowKit Go.Shelf
attribute [local go_sem] Oper.semAt_some

/-- what comes: place and number, from behind -/
def backL (L : List Int) (k : Nat) : List (Int × Int) := (List.range k).map fun j => (((L.length - 1 - j : Nat) : Int), L.getD (L.length - 1 - j) 0)
theorem backL_succ (L : List Int) (k : Nat) : backL L (k + 1) = backL L k ++ [(((L.length - 1 - k : Nat) : Int), L.getD (L.length - 1 - k) 0)] := by simp [backL, List.range_succ]
theorem backL_len (L : List Int) (k : Nat) : (backL L k).length = k := by simp [backL]

/-- two blocks stay -/
def Two (bs g n : Nat) (W W' : World) : Prop := ∀ k, (k = bs ∨ k = g) → k < n → W'.heap[k]? = W.heap[k]?
theorem Two.trans {bs g n : Nat} {A B C : World} (h : Two bs g n A B) (k : Two bs g n B C) : Two bs g n A C := fun q hq hn => (k q hq hn).trans (h q hq hn)

set_option maxRecDepth 10000 in
set_option maxHeartbeats 1000000 in
theorem back_seq (m bs g n cap : Nat) (L : List Int) (w : World) (hn : L.length = n) (hn2 : n ≤ 100000) (hbs : Blk w bs #[.slice (some ⟨g, 0, none⟩) n cap] 39) (base : Nat) (hrow : w.ownsRow base 3 1 (.slice (some ⟨g, 0, none⟩) n cap) n (ints L)) :
    SeqStopsK Fence.wide m Try.prog 77 #[.pointer (some ⟨bs, 0, none⟩)] (fun p : Int × Int => #[.int .i64 p.1, .int .i64 p.2]) (Two bs g w.heap.size) (fun xs => xs = backL L n) (fun _ => True) (n + 1) w := by
  intro l J Jx W hB hJ hJx hY h0
  have hgl : g < w.heap.size := by
    obtain ⟨cur, q, _⟩ := owns_row hrow
    exact (Array.getElem?_eq_some_iff.1 q).1
  have HN := Lib.hid hn
  have HR := Lib.hid hrow
  have HBS := Lib.hid hbs
  have hbl := hbs.lt
  have HY := Lib.hid hY
  have HT : Hid (Two bs g w.heap.size w W) := fun q hq hn => hB.block q hn
  have HF : Hid (∀ A : World, Two bs g w.heap.size w A → A.cell? ⟨bs, 0, none⟩ = some (.slice (some ⟨g, 0, none⟩) n cap) ∧ ∀ k, k < n → A.cell? ⟨g, k, none⟩ = some (.int .i64 (L.getD k 0))) := by
    intro A hA
    refine ⟨(World.cell?_of_block (a := ⟨bs, 0, none⟩) (hA bs (.inl rfl) hbl)).trans (hbs.cell rfl), fun k hk => ?_⟩
    rw [World.cell?_of_block (a := ⟨g, k, none⟩) (hA g (.inr rfl) hgl), hrow.cellAt _ (by omega)]
    simp [ints, List.getD_eq_getElem?_getD, List.getElem?_eq_getElem (show k < L.length by omega)]
  clear hY hJ hJx hbs hrow hB hn
  refine callsIn_of_wp Try.func77 rfl trivial ?_ rfl
  simp only [Try.ntmps77, List.size_toArray, List.length_cons, List.length_nil, Nat.reduceAdd, Nat.reduceSub, Array.replicate_succ, Array.replicate_zero, List.push_toArray, List.append_toArray, List.nil_append, List.cons_append]
  have c0 := (HF.out W HT.out).1
  gi_wp2
  gi_loopw [3] (fun i wr => ∃ k : Nat, k ≤ n ∧ i = .int .i64 ((n : Int) - 1 - (k : Int)) ∧ Hid (J (backL L k) wr) ∧ Hid (Two bs g w.heap.size w wr)) (fun i _ => ((intOf i) + 1).toNat)
  case atStart => exact ⟨0, Nat.zero_le _, by simp, h0, HT.out⟩
  case round =>
    clear c0
    obtain ⟨k, hk, rfl, hj, ht⟩ := hrel
    by_cases hlt : k < n
    · have c1 := (HF.out wr ht.out).1
      have c2 := (HF.out wr ht.out).2 (n - 1 - k) (by omega)
      have e1 : ((n : Int) - 1 - (k : Int)) = ((n - 1 - k : Nat) : Int) := by omega
      obtain ⟨q, hq⟩ : ∃ q, n - 1 - k = q := ⟨_, rfl⟩
      obtain ⟨y, hy⟩ : ∃ y, L.getD q 0 = y := ⟨_, rfl⟩
      rw [hq] at e1 c2
      rw [hy] at c2
      rw [e1]
      have hq2 : q < n := by omega
      obtain ⟨fn, tmps, assign, body, hyy, hR⟩ := HY.out (backL L k) ((q : Int), y) wr hj.out (by rw [backL_len]; omega)
      have hS : Hid (backL L k ++ [((q : Int), y)] = backL L (k + 1)) := by unfold Hid; rw [backL_succ, HN.out, hq, hy]
      have HR1 := Lib.hid hR
      have hge : (0 : Int) ≤ (q : Int) := by omega
      clear hR hy e1
      gi_wp2
      refine ⟨fun h => by simp [Fence.wide] at h, HR1.out.mono ?_⟩
      intro e w' hRe
      rcases hRe with ⟨rfl, hj', hk'⟩ | ⟨rfl, hx'⟩
      · have HJ := Lib.hid hj'
        have HK := Lib.hid (ht.out.trans hk')
        clear hj' hk' hj ht c1 c2 hyy HR1
        gi_wp2
        go_roundw
        case rel =>
          refine ⟨k + 1, by omega, ?_, ?_, HK⟩
          · apply int_eq; omega
          · rw [← hS.out]; exact HJ
        case measure => simp [intOf]
      · have HJ := Lib.hid hx'
        clear hx' hj ht c1 c2 hyy HR1
        gi_wp2
        refine bodyPost_ret (results_none rfl _ _ _) rfl ?_
        exact ⟨⟨_, rfl⟩, .inr ⟨_, trivial, HJ.out⟩⟩
    · obtain rfl : k = n := by omega
      have hge : ¬ (0 : Int) ≤ ((k : Int) - 1 - (k : Int)) := by omega
      gi_wp2
      refine bodyPost_end (results_none rfl _ _ _) rfl ?_
      exact ⟨⟨_, rfl⟩, .inl hj.out⟩

end Go.Proofs.Ytjmggphnngffjaa
