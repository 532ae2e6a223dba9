/- Few numbers of 64 bits, sorted: cmp.Less, insertionSortOrdered, pdqsortOrdered, slices.Sort. slices.Clone, slices.Compact, num.Sorted: few numbers of 64 bits. slices.Compact of numbers in order. num.Sorted: few numbers of 64 bits, each once, in order. -/
import Derived.Test.YtkkoooagamadjaaGreatDoorWo30
import Derived.Test.YtkkoooagamadjaaGreatDoorWo07
import Derived.Test.YtkkoooagamadjaaGreatDoorShelf
import Derived.BigQuiet
import Derived.Test.YtkkoooagamadjaaGreatDoorWo22
import Derived.Test.YtkkoooagamadjaaGreatDoorWo12
import Derived.Lib.SliceRun

namespace Go.Proofs.YtkkoooagamadjaaGreatDoor
open Go.RowKit

theorem isNaN_any (x : Int) (w : World) : Calls Tryz.prog 77 #[.int .i64 x] w fun e w' => e = .returned (.bool false) ∧ w' = w := by
  go_enter Tryz.func77, Tryz.ntmps77
  go_wp2
  go_ret
  exact ⟨ret_bool (by simp), rfl⟩
theorem cless_any (x y : Int) (w : World) : Calls Tryz.prog 124 #[.int .i64 x, .int .i64 y] w fun e w' => e = .returned (.bool (decide (x < y))) ∧ w' = w := by
  go_enter Tryz.func124, Tryz.ntmps124
  go_wp2_with (go_at_call 77; refine (isNaN_any _ _).mono ?_; rintro e w' ⟨rfl, rfl⟩)
  go_ret
  exact ⟨rfl, rfl⟩

theorem ints_get {l : List Int} {k : Nat} {x : Int} (h : l[k]? = some x) : (ints l)[k]? = some (.int .i64 x) := by unfold ints; rw [List.getElem?_map, h]; rfl
theorem ints_set (l : List Int) (k : Nat) (x : Int) : ints (l.set k x) = (ints l).set k (.int .i64 x) := by simp [ints, List.map_set]

theorem owns_swapI {w : World} {base : Nat} {e : TypeId} {g n cap q : Nat} {dj : List Int} {x y : Int} (h : w.ownsRow base e 1 (.slice (some ⟨g, 0, none⟩) n cap) n (ints dj)) :
    ((w.setCell ⟨g, q + 1, none⟩ (.int .i64 y)).setCell ⟨g, q, none⟩ (.int .i64 x)).drew.ownsRow base e 1 (.slice (some ⟨g, 0, none⟩) n cap) n (ints ((dj.set (q + 1) y).set q x)) := by
  rw [ints_set, ints_set]
  exact owns_set (owns_set h _ _) _ _

set_option maxRecDepth 100000 in
set_option maxHeartbeats 4000000 in
theorem insI_run (g n cap base : Nat) (l : List Int) (w : World) (hn : n = l.length) (hn2 : n ≤ 8388608)
    (hown : w.ownsRow base 2 1 (.slice (some ⟨g, 0, none⟩) n cap) n (ints l)) :
    Calls Tryz.prog 118 #[.slice (some ⟨g, 0, none⟩) n cap, .int .i64 0, .int .i64 n] w fun e w' => e = .returned (.tuple #[]) ∧ ∃ l', SortK (fun x : Int => x) l l' ∧ w'.ownsRow base 2 1 (.slice (some ⟨g, 0, none⟩) n cap) n (ints l') ∧ w.grownBy w' (some g) := by
  have HN := Lib.hid hn
  clear hn
  go_enter Tryz.func118, Tryz.ntmps118
  go_wp2
  go_loopw [6, 7] (fun i _ wr => ∃ (k : Nat) (dk : List Int), 1 ≤ k ∧ (k ≤ n ∨ k = 1) ∧ i = .int .i64 k ∧ Hid (OuterK (fun x : Int => x) l dk k) ∧ Hid (wr.ownsRow base 2 1 (.slice (some ⟨g, 0, none⟩) n cap) n (ints dk)) ∧ Hid (w.grownBy wr (some g))) (fun i _ _ => n - (intOf i).toNat)
  case atStart => exact ⟨1, l, Nat.le_refl _, .inr rfl, rfl, outerK_start l, hown, ⟨rfl, rfl, rfl, Nat.le_refl _, fun _ _ _ => rfl⟩⟩
  case round =>
    obtain ⟨i, dk, hi1, hi, rfl, HO, HW, HG⟩ := hrel
    by_cases hlt : i < n
    · have hin : (i : Int) < (n : Int) := by omega
      have HS := Lib.hid (innerK_start HO.out (by rw [← HN.out]; exact hlt))
      clear hi
      go_wp2
      go_loopw [7] (fun k wr => ∃ (j : Nat) (dj : List Int), j ≤ i ∧ k = .int .i64 j ∧ Hid (InnerK (fun x : Int => x) l dj i j) ∧ Hid (wr.ownsRow base 2 1 (.slice (some ⟨g, 0, none⟩) n cap) n (ints dj)) ∧ Hid (w.grownBy wr (some g))) (fun k _ => (intOf k).toNat)
      case atStart => exact ⟨i, dk, Nat.le_refl _, rfl, HS, HW, HG⟩
      case round =>
        obtain ⟨j, dj, hj, rfl, HI, HW2, HG2⟩ := hrel
        by_cases hj0 : j = 0
        · subst hj0
          rw [show ((0 : Nat) : Int) = 0 from rfl]
          have HE := Lib.hid (innerK_end HI.out (.inl rfl))
          have z1 : decide ((0 : Int) < 0) = false := by decide
          go_wp2_with fail
          go_quiet (fail)
          generalize hwq : wr.drewN nq = wq
          have HWQ : Hid (wq.ownsRow base 2 1 (.slice (some ⟨g, 0, none⟩) n cap) n (ints dj)) := by rw [← hwq]; exact HW2
          have HGQ : Hid (w.grownBy wq (some g)) := by rw [← hwq]; exact ⟨HG2.out.os, HG2.out.tape, HG2.out.output, HG2.out.size, HG2.out.block⟩
          clear hwq
          go_wp2
          exact ⟨⟨i + 1, dj, by omega, by omega, by go_num, HE, HWQ, HGQ⟩, by simp [intOf]; omega⟩
        · obtain ⟨q, rfl⟩ : ∃ q, j = q + 1 := ⟨j - 1, by omega⟩
          obtain ⟨A, y, x, B, C, _, _, _, hp, _, _, hx, hy⟩ := innerK_get HI.out
          have hln : dj.length = n := by rw [hp.perm.length_eq, HN.out]
          have p1 : ((q + 1 : Nat) : Int) < (n : Int) := by omega
          have p2 : (0 : Int) < ((q + 1 : Nat) : Int) := by omega
          have p3 : ((q + 1 : Nat) : Int) - 1 < (n : Int) := by omega
          have c1 : wr.cell? ⟨g, q + 1, none⟩ = some (.int .i64 x) := by rw [HW2.out.cellAt _ (by omega)]; exact ints_get hx
          have c3 : wr.cell? ⟨g, q, none⟩ = some (.int .i64 y) := by rw [HW2.out.cellAt _ (by omega)]; exact ints_get hy
          have f1 := owns_frozen HW2.out (q + 1)
          have f3 := owns_frozen HW2.out q
          have HX := Lib.hid hx
          have HY := Lib.hid hy
          have HC : Hid (∀ m, Calls Tryz.prog 124 #[.int .i64 x, .int .i64 y] (wr.drewN m) fun e w' => e = .returned (.bool (decide (x < y))) ∧ w' = wr.drewN m) := fun m => cless_any x y _
          clear hx hy hp hln
          by_cases t1 : x < y
          · have HI2 := Lib.hid (innerK_swap HI.out HX.out HY.out t1)
            rw [decide_eq_true t1] at HC
            clear t1
            go_wp2_with fail
            go_quiet ((go_at_call 124; exact Calls.quiet_of_same (HC.out _)))
            generalize hwq : wr.drewN nq = wq
            have d1 : wq.cell? ⟨g, q + 1, none⟩ = some (.int .i64 x) := by rw [← hwq, World.cell?_drewN]; exact c1
            have d3 : wq.cell? ⟨g, q, none⟩ = some (.int .i64 y) := by rw [← hwq, World.cell?_drewN]; exact c3
            have g1 : wq.frozen? ⟨g, q + 1, none⟩ = false := by rw [← hwq, World.frozen?_drewN]; exact f1
            have g3 : wq.frozen? ⟨g, q, none⟩ = false := by rw [← hwq, World.frozen?_drewN]; exact f3
            have HWQ : Hid (wq.ownsRow base 2 1 (.slice (some ⟨g, 0, none⟩) n cap) n (ints dj)) := by rw [← hwq]; exact HW2
            have HGQ : Hid (w.grownBy wq (some g)) := by rw [← hwq]; exact ⟨HG2.out.os, HG2.out.tape, HG2.out.output, HG2.out.size, HG2.out.block⟩
            clear c1 c3 f1 f3 hwq HC
            go_wp2
            go_region
            go_wp2
            exact ⟨⟨q, _, by omega, rfl, HI2, owns_swapI HWQ.out, grown_drew (grown_set (grown_set HGQ.out _) _)⟩, by simp [intOf]⟩
          · have HE := Lib.hid (innerK_end HI.out (.inr ⟨q, x, y, rfl, HX.out, HY.out, t1⟩))
            rw [decide_eq_false t1] at HC
            clear t1
            go_wp2_with fail
            go_quiet ((go_at_call 124; exact Calls.quiet_of_same (HC.out _)))
            generalize hwq : wr.drewN nq = wq
            have HWQ : Hid (wq.ownsRow base 2 1 (.slice (some ⟨g, 0, none⟩) n cap) n (ints dj)) := by rw [← hwq]; exact HW2
            have HGQ : Hid (w.grownBy wq (some g)) := by rw [← hwq]; exact ⟨HG2.out.os, HG2.out.tape, HG2.out.output, HG2.out.size, HG2.out.block⟩
            clear hwq HC
            go_wp2
            exact ⟨⟨i + 1, dj, by omega, by omega, by go_num, HE, HWQ, HGQ⟩, by simp [intOf]; omega⟩
    · have hin : ¬ (i : Int) < (n : Int) := by omega
      have ho : SortK (fun x : Int => x) l dk := by
        have hp := HO.out.1.perm.length_eq
        have h := HO.out
        rcases (show i = n ∨ n ≤ 1 by omega) with rfl | h1
        · rw [HN.out] at h; exact outerK_end h
        · refine ⟨h.1, ?_⟩
          have h2 := h.2
          rw [List.take_of_length_le (by have := HN.out; omega)] at h2
          exact h2
      have HSO := Lib.hid ho
      clear ho hi
      go_wp2
      go_end0
      exact ⟨rfl, dk, HSO.out, HW.out, HG.out⟩

set_option maxHeartbeats 1000000 in
theorem insI_any (base : Nat) (v : Value) (l : List Int) (w : World) (hown : w.ownsRow base 2 1 v l.length (ints l)) (hl : l.length ≤ 8388608) :
    Calls Tryz.prog 118 #[v, .int .i64 0, .int .i64 l.length] w fun e w' => e = .returned (.tuple #[]) ∧ ∃ l', SortK (fun x : Int => x) l l' ∧ w'.ownsRow base 2 1 v l.length (ints l') ∧ w.grownBy w' v.ownBlock := by
  have hown' := hown
  rcases hown.2 with ⟨rfl, h0⟩ | ⟨g, cap, cur, rfl, hb, hg, hn, _⟩
  · have hl0 : l = [] := List.length_eq_zero_iff.1 h0
    subst hl0
    go_enter Tryz.func118, Tryz.ntmps118
    go_wp2
    refine wp_loop_rounds 1 ?_
    rw [rounds_succ]
    go_wp2
    go_end0
    exact ⟨rfl, [], sortK_short (by simp), hown', ⟨rfl, rfl, rfl, Nat.le_refl _, fun _ _ _ => rfl⟩⟩
  · exact (insI_run g l.length cap base l w rfl hl hown').mono fun e w' ⟨h1, l', h2, h3, h4⟩ => ⟨h1, l', h2, h3, h4⟩

set_option maxRecDepth 100000 in
set_option maxHeartbeats 1000000 in
theorem pdq_any (base : Nat) (v : Value) (l : List Int) (lim : Int) (w : World) (hown : w.ownsRow base 2 1 v l.length (ints l)) (hl : l.length ≤ 12) :
    Calls Tryz.prog 91 #[v, .int .i64 0, .int .i64 l.length, .int .i64 lim] w fun e w' => e = .returned (.tuple #[]) ∧ ∃ l', SortK (fun x : Int => x) l l' ∧ w'.ownsRow base 2 1 v l.length (ints l') ∧ w.grownBy w' v.ownBlock := by
  have HI := Lib.hid (insI_any base v l w hown (by omega))
  obtain ⟨ad, cap, hv⟩ := owns_len hown
  obtain ⟨n, hn⟩ : ∃ n, l.length = n := ⟨_, rfl⟩
  rw [hn] at hl HI hv ⊢
  subst hv
  clear hown hn
  go_enter Tryz.func91, Tryz.ntmps91
  go_wp2
  refine wp_loop_rounds 1 ?_
  rw [rounds_succ]
  have h12 : (n : Int) ≤ 12 := by omega
  go_wp2_with fail
  refine HI.out.mono ?_
  rintro e w' ⟨rfl, l', h1, h2, h3⟩
  have H1 := Lib.hid h1; have H2 := Lib.hid h2; have H3 := Lib.hid h3
  clear h1 h2 h3
  go_wp2
  first
  | ((try simp only [Exit.inBlock, Exit.then]); refine bodyPost_ret (results_none rfl _ _ _) rfl ?_)
  | go_end0
  exact ⟨rfl, l', H1.out, H2.out, H3.out⟩

set_option maxRecDepth 100000 in
set_option maxHeartbeats 1000000 in
theorem sortI_any (base : Nat) (v : Value) (l : List Int) (w : World) (hown : w.ownsRow base 2 1 v l.length (ints l)) (hl : l.length ≤ 12) :
    Calls Tryz.prog 56 #[v] w fun e w' => e = .returned (.tuple #[]) ∧ ∃ l', SortK (fun x : Int => x) l l' ∧ w'.ownsRow base 2 1 v l.length (ints l') ∧ w.grownBy w' v.ownBlock := by
  obtain ⟨ad, cap, hv⟩ := owns_len hown
  have HP : Hid (∀ lim, Calls Tryz.prog 91 #[v, .int .i64 0, .int .i64 l.length, .int .i64 lim] w fun e w' => e = .returned (.tuple #[]) ∧ ∃ l', SortK (fun x : Int => x) l l' ∧ w'.ownsRow base 2 1 v l.length (ints l') ∧ w.grownBy w' v.ownBlock) := fun lim => pdq_any base v l lim w hown hl
  obtain ⟨n, hn⟩ : ∃ n, l.length = n := ⟨_, rfl⟩
  rw [hn] at hl HP hv ⊢
  subst hv
  have HB := Lib.hid (Tryz.bits_Len (n : Int) w (by omega) (by omega))
  have hc : IntKind.u64.wrap (n : Int) = n := by rw [IntKind.wrap_u64]; omega
  clear hown hn
  go_enter Tryz.func56, Tryz.ntmps56
  go_wp2_with fail
  refine HB.out.mono ?_
  rintro e w' ⟨rfl, rfl⟩
  go_wp2_with fail
  refine (HP.out _).mono ?_
  rintro e w2 ⟨rfl, l', h1, h2, h3⟩
  have H1 := Lib.hid h1; have H2 := Lib.hid h2; have H3 := Lib.hid h3
  clear h1 h2 h3
  go_wp2
  go_end0
  exact ⟨rfl, l', H1.out, H2.out, H3.out⟩

end Go.Proofs.YtkkoooagamadjaaGreatDoor

namespace Go.Proofs.YtkkoooagamadjaaGreatDoor
open Go.RowKit

/- plain: each once, in order -/
theorem sortS_nil : sortS [] = [] := int_uniq (sortS_ok _).1 List.Pairwise.nil (fun x => by rw [(sortS_ok _).2])
theorem sortS_eq {l m : List Int} (h : ∀ x, x ∈ l ↔ x ∈ m) : sortS l = sortS m := int_uniq (sortS_ok _).1 (sortS_ok _).1 (fun x => by rw [(sortS_ok _).2, (sortS_ok _).2]; exact h x)
theorem sorted_le {l : List Int} (hs : l.Pairwise (fun a b => a ≤ b)) {i j : Nat} {x y : Int} (hx : l[i]? = some x) (hy : l[j]? = some y) (hij : i ≤ j) : x ≤ y := by
  obtain ⟨h1, rfl⟩ := List.getElem?_eq_some_iff.1 hx
  obtain ⟨h2, rfl⟩ := List.getElem?_eq_some_iff.1 hy
  rcases Nat.lt_or_eq_of_le hij with h | rfl
  · exact List.pairwise_iff_getElem.1 hs i j h1 h2 h
  · exact Int.le_refl _
theorem mem_take {l : List Int} {m : Nat} {z : Int} (h : z ∈ l.take m) : ∃ i, i < m ∧ l[i]? = some z := by
  obtain ⟨i, hi, e⟩ := List.getElem_of_mem h
  rw [List.length_take] at hi
  refine ⟨i, by omega, ?_⟩
  rw [List.getElem_take] at e
  rw [List.getElem?_eq_getElem (by omega), e]
theorem take_mem {l : List Int} {m i : Nat} {z : Int} (hi : i < m) (h : l[i]? = some z) : z ∈ l.take m := by
  have : (l.take m)[i]? = some z := by rw [List.getElem?_take, if_pos hi]; exact h
  exact List.mem_of_getElem? this
theorem uniq_same {l : List Int} {m : Nat} {x : Int} (hx : l[m + 1]? = some x) (hy : l[m]? = some x) : sortS (l.take (m + 2)) = sortS (l.take (m + 1)) := by
  refine sortS_eq fun z => ?_
  rw [List.take_add_one, hx]
  simp only [Option.toList_some, List.mem_append, List.mem_singleton]
  constructor
  · rintro (h | rfl)
    · exact h
    · exact take_mem (Nat.lt_succ_self m) hy
  · exact .inl
theorem uniq_more {l : List Int} (hs : l.Pairwise (fun a b => a ≤ b)) {m : Nat} {x y : Int} (hx : l[m + 1]? = some x) (hy : l[m]? = some y) (hne : x ≠ y) : sortS (l.take (m + 2)) = sortS (l.take (m + 1)) ++ [x] := by
  have hyx := sorted_le hs hy hx (Nat.le_succ m)
  refine int_uniq (sortS_ok _).1 ?_ fun z => ?_
  · refine List.pairwise_append.2 ⟨(sortS_ok _).1, List.pairwise_singleton _ _, fun a ha b hb => ?_⟩
    rw [List.mem_singleton] at hb
    subst hb
    obtain ⟨i, hi, hz⟩ := mem_take (((sortS_ok _).2 a).1 ha)
    have := sorted_le hs hz hy (by omega)
    omega
  · rw [(sortS_ok _).2, List.take_add_one, hx, List.mem_append, List.mem_append, (sortS_ok _).2]
    simp
theorem uniq_one {l : List Int} {x : Int} (hx : l[0]? = some x) : sortS (l.take 1) = [x] := by
  have e : l.take 1 = [x] := by
    rw [List.take_add_one, hx]; rfl
  rw [e]
  exact int_uniq (sortS_ok _).1 (List.pairwise_singleton _ _) (fun z => (sortS_ok _).2 z)

set_option maxRecDepth 100000 in
set_option maxHeartbeats 1000000 in
theorem clone64_any {w : World} {v : Value} {l : List Int} (h : Reads w v (ints l)) (hl : l.length ≤ 1000) :
    Calls Tryz.prog 35 #[v] w fun e w' => ∃ v', e = .returned v' ∧ w'.ownsRow w.heap.size 2 1 v' l.length (ints l) ∧ Below w.heap.size w w' := by
  obtain ⟨ad, cap, e0, -⟩ := h.len
  rw [ints_len] at e0
  have hlen : (ints l).length = l.length := ints_len l
  cases ad with
  | none =>
    have hl0 : l = [] := by
      rcases h with ⟨a, c, e, hx⟩ | ⟨b, off, c, e, _⟩
      · exact List.map_eq_nil_iff.1 hx
      · rw [e0] at e; cases e
    subst hl0
    subst e0
    have HR : Hid (∀ W, (binOp .eql 22 (.slice none 0 cap) (.slice none 0 0)).run Tryz.prog W = .ok (.bool true) W) := fun W => Lib.run_eql_slice_nil W 22 2 none 0 cap 0 0 Tryz.underlying22
    have hr := HR.out w
    clear h
    go_enter Tryz.func35, Tryz.ntmps35
    go_wp2
    go_ret
    exact ⟨_, rfl, World.ownsRow_nil _ _ _ _, Below.refl _ _⟩
  | some a =>
    subst e0
    have HR : Hid (∀ W, (binOp .eql 22 (.slice (some a) l.length cap) (.slice none 0 0)).run Tryz.prog W = .ok (.bool false) W) := fun W => Lib.run_eql_slice_nil W 22 2 (some a) l.length cap 0 0 Tryz.underlying22
    have hr := HR.out w
    have hba : Below w.heap.size w (w.alloc (.cells #[] 2)) := (Below.refl _ _).alloc (Nat.le_refl _) _
    have own0 : (w.alloc (.cells #[] 2)).ownsRow w.heap.size 2 1 (.slice (some ⟨w.heap.size, 0, none⟩) 0 0) 0 [] := World.ownsRow_lit w #[] 0 (Nat.le_refl _) (Nat.zero_le _) rfl
    have hsx : w.heap.size ≤ (w.alloc (.cells #[] 2)).heap.size := by simp
    have rx := h.below (Nat.le_refl _) hba
    obtain ⟨n, hn⟩ : ∃ n, l.length = n := ⟨_, rfl⟩
    rw [hn] at hlen rx hl ⊢
    have HBA := Lib.hid hba
    rw [hn] at hr
    clear h hba HR hn
    go_enter Tryz.func35, Tryz.ntmps35
    go_wp2_with (first
      | (at_builtin; refine appR _ rfl _ _ 22 rfl w.heap.size 2 (.int .i64 0) 8 Tryz.underlying22 info_int64 rfl (by decide) _ 0 [] rfl (by exact own0) _ _ rfl rx (ints_one _) (by rw [hlen]; omega) hsx ?_; clear own0 rx hsx; intro va w3 hown3 hb3
         have HB3 := Lib.hid (HBA.out.trans hb3)
         have HO3 := Lib.hid hown3
         clear hown3 hb3)
      | fail)
    go_ret
    refine ⟨_, rfl, ?_, HB3.out⟩
    have := HO3.out
    rw [hlen, Nat.zero_add, List.nil_append] at this
    exact this

end Go.Proofs.YtkkoooagamadjaaGreatDoor

namespace Go.Proofs.YtkkoooagamadjaaGreatDoor
open Go.RowKit

/-- where the second loop of Compact stands -/
structure CpK (l cur : List Int) (n K k i : Nat) : Prop where
  len : cur.length = n
  low : k ≤ K + i
  take : sortS (l.take (K + i + 1)) = cur.take k
  rest : ∀ p, K + i ≤ p → cur[p]? = l[p]?
theorem CpK.same {l cur : List Int} {n K k i : Nat} {x : Int} (h : CpK l cur n K k i) (hx : l[K + i + 1]? = some x) (hy : l[K + i]? = some x) : CpK l cur n K k (i + 1) :=
  ⟨h.len, by have := h.low; omega, by rw [show K + (i + 1) + 1 = K + i + 2 by omega, uniq_same hx hy]; exact h.take, fun p hp => h.rest p (by omega)⟩
theorem CpK.more {l cur : List Int} {n K k i : Nat} {x y : Int} (h : CpK l cur n K k i) (hs : l.Pairwise (fun a b => a ≤ b)) (hx : l[K + i + 1]? = some x) (hy : l[K + i]? = some y) (hne : x ≠ y) (hkn : k < n) : CpK l (cur.set k x) n K (k + 1) (i + 1) := by
  refine ⟨by rw [List.length_set]; exact h.len, by have := h.low; omega, ?_, fun p hp => ?_⟩
  · rw [show K + (i + 1) + 1 = K + i + 2 by omega, uniq_more hs hx hy hne, h.take, List.take_add_one, List.getElem?_set_self (by rw [h.len]; exact hkn), List.take_set_of_le (Nat.le_refl _)]
    rfl
  · rw [List.getElem?_set_ne (by have := h.low; omega)]
    exact h.rest p (by omega)

set_option maxRecDepth 100000 in
set_option maxHeartbeats 4000000 in
theorem compact_run (g n cap base : Nat) (l : List Int) (w : World) (hn : n = l.length) (hn1 : 2 ≤ n) (hn2 : n ≤ 1000) (hs : l.Pairwise (fun a b => a ≤ b))
    (hown : w.ownsRow base 2 1 (.slice (some ⟨g, 0, none⟩) n cap) n (ints l)) :
    Calls Tryz.prog 57 #[.slice (some ⟨g, 0, none⟩) n cap] w fun e w' => ∃ v', e = .returned v' ∧ w'.ownsRow base 2 1 v' (sortS l).length (ints (sortS l)) ∧ w.grownBy w' (some g) := by
  have hcap : n ≤ cap := by
    rcases hown.2 with ⟨h0, _⟩ | ⟨g', cap', cur, hv, hb, hg, hn, _⟩
    · cases h0
    · cases hv; exact hn
  have hmax : cap ≤ maxLen := by
    rcases hown.2 with ⟨h0, _⟩ | ⟨g', cap', cur, hv, hb, hg, hn, hm, _⟩
    · cases h0
    · cases hv; exact hm
  unfold maxLen at hmax
  have HN := Lib.hid hn; have HS := Lib.hid hs; have HO := Lib.hid hown
  have hl0 : ∃ x, l[0]? = some x := ⟨_, List.getElem?_eq_getElem (by omega)⟩
  have HU1 : Hid (sortS (l.take 1) = l.take 1) := by
    obtain ⟨x, hx⟩ := hl0
    unfold Hid
    rw [uniq_one hx, List.take_add_one, hx]; rfl
  clear hn hs hown hl0
  go_enter Tryz.func57, Tryz.ntmps57
  go_wp2_with fail
  go_loopw [3] (fun k wr => ∃ (q : Nat), q + 1 ≤ n ∧ k = .int .i64 ((q + 1 : Nat) : Int) ∧ Hid (sortS (l.take (q + 1)) = l.take (q + 1)) ∧ Hid (wr.ownsRow base 2 1 (.slice (some ⟨g, 0, none⟩) n cap) n (ints l)) ∧ Hid (w.grownBy wr (some g))) (fun k _ => n - (intOf k).toNat)
  case atStart => exact ⟨0, by omega, rfl, HU1, HO, ⟨rfl, rfl, rfl, Nat.le_refl _, fun _ _ _ => rfl⟩⟩
  case round =>
    clear HO HU1
    obtain ⟨q, hq, rfl, HU, HO, HG⟩ := hrel
    by_cases hlt : q + 1 < n
    · obtain ⟨x, hx⟩ : ∃ x, l[q + 1]? = some x := ⟨_, List.getElem?_eq_getElem (by rw [← HN.out]; exact hlt)⟩
      obtain ⟨y, hy⟩ : ∃ y, l[q]? = some y := ⟨_, List.getElem?_eq_getElem (by rw [← HN.out]; omega)⟩
      have c1 : wr.cell? ⟨g, q + 1, none⟩ = some (.int .i64 x) := by rw [HO.out.cellAt _ (by omega)]; exact ints_get hx
      have c2 : wr.cell? ⟨g, q, none⟩ = some (.int .i64 y) := by rw [HO.out.cellAt _ (by omega)]; exact ints_get hy
      have p1 : ((q + 1 : Nat) : Int) < (n : Int) := by omega
      have p2 : ((q + 1 : Nat) : Int) - 1 < (n : Int) := by omega
      have p3 : (0 : Int) ≤ ((q + 1 : Nat) : Int) := by omega
      have HX := Lib.hid hx; have HY := Lib.hid hy
      clear hx hy
      by_cases hxy : x = y
      · subst hxy
        go_wp2_with fail
        go_quiet (fail)
        generalize hwq : wr.drewN nq = wq
        have HOQ : Hid (wq.ownsRow base 2 1 (.slice (some ⟨g, 0, none⟩) n cap) n (ints l)) := by rw [← hwq]; exact HO
        have HGQ : Hid (w.grownBy wq (some g)) := by rw [← hwq]; exact ⟨HG.out.os, HG.out.tape, HG.out.output, HG.out.size, HG.out.block⟩
        have HK0 : Hid (CpK l l n (q + 1) (q + 1) 0) := by
          refine ⟨HN.out.symm, by omega, ?_, fun p _ => rfl⟩
          rw [show q + 1 + 0 + 1 = q + 2 by omega, uniq_same HX.out HY.out]
          exact HU.out
        clear hwq HO HG c1 c2 HX HY HU
        obtain ⟨K, hK⟩ : ∃ K, q + 1 = K := ⟨_, rfl⟩
        rw [hK] at HK0 p1 p3 hlt ⊢
        have hK1 : 1 ≤ K := by omega
        have hcK : ¬ cap = K := by omega
        have hcK2 : ¬ cap - K = 0 := by omega
        have hKc : (K : Int) ≤ (cap : Int) := by omega
        have hKn : (K : Int) ≤ (n : Int) := by omega
        clear hK p2 hq
        go_wp2_with fail
        obtain ⟨wo, hwo⟩ : ∃ w1, w1 = wq := ⟨_, rfl⟩
        go_loopw [3, 5] (fun k j wr => ∃ (p i : Nat) (cur : List Int), k = .int .i64 p ∧ j = .int .i64 ((i + 1 : Nat) : Int) ∧ i + 1 ≤ n - K ∧ p < n ∧ 1 ≤ p ∧ Hid (CpK l cur n K p i) ∧ Hid (wr.ownsRow base 2 1 (.slice (some ⟨g, 0, none⟩) n cap) n (ints cur)) ∧ Hid (w.grownBy wr (some g))) (fun _ j _ => n - K - (intOf j).toNat)
        case atStart => exact ⟨K, 0, l, rfl, rfl, by omega, hlt, hK1, HK0, HOQ, HGQ⟩
        case round =>
          clear HOQ HGQ HK0 hwo
          obtain ⟨p, i, cur, rfl, rfl, hi, hp, hp1, HK, HO, HG⟩ := hrel
          by_cases hlt2 : i + 1 < n - K
          · have hKi : K + i + 1 < n := by omega
            obtain ⟨x2, hx2⟩ : ∃ x, l[K + i + 1]? = some x := ⟨_, List.getElem?_eq_getElem (by rw [← HN.out]; exact hKi)⟩
            obtain ⟨y2, hy2⟩ : ∃ y, l[K + i]? = some y := ⟨_, List.getElem?_eq_getElem (by rw [← HN.out]; omega)⟩
            have c1 : wr.cell? ⟨g, K + (i + 1), none⟩ = some (.int .i64 x2) := by rw [HO.out.cellAt _ (by omega)]; exact ints_get (by rw [HK.out.rest _ (by omega)]; exact hx2)
            have c2 : wr.cell? ⟨g, K + i, none⟩ = some (.int .i64 y2) := by rw [HO.out.cellAt _ (by omega)]; exact ints_get (by rw [HK.out.rest _ (by omega)]; exact hy2)
            have p1 : ((i + 1 : Nat) : Int) < ((n - K : Nat) : Int) := by omega
            have p2 : ((i + 1 : Nat) : Int) - 1 < ((n - K : Nat) : Int) := by omega
            have p4 : (p : Int) < (n : Int) := by omega
            obtain ⟨z, hz⟩ : ∃ z, cur[p]? = some z := ⟨_, List.getElem?_eq_getElem (by rw [HK.out.len]; exact hp)⟩
            have c3 : wr.cell? ⟨g, p, none⟩ = some (.int .i64 z) := by rw [HO.out.cellAt _ (by omega)]; exact ints_get hz
            have f3 := owns_frozen HO.out p
            have HX := Lib.hid hx2; have HY := Lib.hid hy2
            clear hx2 hy2 hz
            by_cases hxy : x2 = y2
            · subst hxy
              have HK2 := Lib.hid (HK.out.same HX.out HY.out)
              clear c3 f3 HK HX HY
              go_wp2_with fail
              go_quiet (fail)
              generalize hwq : wr.drewN nq = wq
              have HOQ : Hid (wq.ownsRow base 2 1 (.slice (some ⟨g, 0, none⟩) n cap) n (ints cur)) := by rw [← hwq]; exact HO
              have HGQ : Hid (w.grownBy wq (some g)) := by rw [← hwq]; exact ⟨HG.out.os, HG.out.tape, HG.out.output, HG.out.size, HG.out.block⟩
              clear hwq HO HG c1 c2
              go_wp2_with fail
              go_roundw
              case rel => exact ⟨p, i + 1, cur, rfl, by go_num, by omega, hp, hp1, HK2, HOQ, HGQ⟩
              case measure => simp [intOf]; omega
            · have HK2 := Lib.hid (HK.out.more HS.out HX.out HY.out hxy hp)
              have hxb : (x2 == y2) = false := by simpa using hxy
              have hp2 : p + 1 < n := by have := HK.out.low; omega
              clear hxy HK HX HY
              go_wp2_with fail
              go_quiet (fail)
              generalize hwq : wr.drewN nq = wq
              have HOQ : Hid (wq.ownsRow base 2 1 (.slice (some ⟨g, 0, none⟩) n cap) n (ints cur)) := by rw [← hwq]; exact HO
              have HGQ : Hid (w.grownBy wq (some g)) := by rw [← hwq]; exact ⟨HG.out.os, HG.out.tape, HG.out.output, HG.out.size, HG.out.block⟩
              have d1 : wq.cell? ⟨g, K + (i + 1), none⟩ = some (.int .i64 x2) := by rw [← hwq, World.cell?_drewN]; exact c1
              have d3 : wq.cell? ⟨g, p, none⟩ = some (.int .i64 z) := by rw [← hwq, World.cell?_drewN]; exact c3
              have g3 : wq.frozen? ⟨g, p, none⟩ = false := by rw [← hwq, World.frozen?_drewN]; exact f3
              have HO2 : Hid ((wq.setCell ⟨g, p, none⟩ (.int .i64 x2)).ownsRow base 2 1 (.slice (some ⟨g, 0, none⟩) n cap) n (ints (cur.set p x2))) := by unfold Hid; rw [ints_set]; exact owns_set HOQ.out _ _
              have HG2 : Hid (w.grownBy (wq.setCell ⟨g, p, none⟩ (.int .i64 x2)) (some g)) := grown_set HGQ.out _
              clear hwq HO HG c1 c2 c3 f3 HOQ HGQ
              go_wp2_with fail
              go_roundw
              case rel => exact ⟨p + 1, i + 1, cur.set p x2, by go_num, by go_num, by omega, hp2, by omega, HK2, HO2, HG2⟩
              case measure => simp [intOf]; omega
          · have hiK : K + i + 1 = n := by omega
            have htk := HK.out.take
            rw [hiK, List.take_of_length_le (by rw [← HN.out]; exact Nat.le_refl _)] at htk
            have HTK := Lib.hid htk
            have hplen : (sortS l).length = p := by rw [htk, List.length_take, HK.out.len]; omega
            have HPL := Lib.hid hplen
            have hno : ¬ ((i + 1 : Nat) : Int) < ((n - K : Nat) : Int) := by omega
            have hcp : ¬ cap = p := by omega
            have hcp2 : ¬ cap - p = 0 := by omega
            have hpn : (p : Int) ≤ (n : Int) := by omega
            have hpc : (p : Int) ≤ (cap : Int) := by omega
            have kc : ∀ ty, (Builtin.clear_ #[22] ty #[.slice (some ⟨g, p, none⟩) (n - p) (cap - p)]).run Tryz.prog wr = .ok (.tuple #[]) (wr.setCells g p (List.replicate (n - p) (.int .i64 0))) := fun ty =>
              Lib.run_clear_slice wr 22 2 ty (.int .i64 0) Tryz.underlying22 (fun w => Tryz.zeroValue2 _) rfl rfl g p (n - p) _ (by omega) (fun j hj => by
                rw [HO.out.cellAt _ (by omega), List.getElem?_eq_getElem (by rw [ints_len, HK.out.len]; omega)]; rfl) (fun j _ => owns_frozen HO.out _)
            have HOF : Hid ((wr.setCells g p (List.replicate (n - p) (.int .i64 0))).ownsRow base 2 1 (.slice (some ⟨g, 0, none⟩) p cap) p (ints (sortS l))) := by
              have h3 := owns_shrink (owns_setCells (List.replicate (n - p) (.int .i64 0)) p HO.out) (show p ≤ n by omega)
              rw [Nat.mul_one] at h3
              unfold Hid
              have e : (setAll (ints cur) p (List.replicate (n - p) (.int .i64 0))).take p = ints (sortS l) := by
                rw [setAll_eq _ _ _ (by rw [List.length_replicate, ints_len, HK.out.len]; omega), List.append_assoc, List.take_append_of_le_length (by rw [List.length_take, ints_len, HK.out.len]; omega), List.take_of_length_le (by rw [List.length_take]; omega), htk]
                unfold ints; rw [List.map_take]
              rw [e] at h3
              exact h3
            have HGF := Lib.hid (grown_setCells (List.replicate (n - p) (.int .i64 0)) p HG.out)
            have hk1 := kc
            clear kc htk hplen HK HO HG HTK
            go_wp2_with fail
            first
            | (go_ret; refine ⟨_, rfl, ?_, HGF.out⟩; rw [HPL.out]; exact HOF.out)
      · have HU2 : Hid (sortS (l.take (q + 1 + 1)) = l.take (q + 1 + 1)) := by
          unfold Hid
          rw [show q + 1 + 1 = q + 2 by omega, uniq_more HS.out HX.out HY.out hxy, HU.out]
          rw [show q + 2 = (q + 1) + 1 by omega, List.take_add_one (l := l) (i := q + 1), HX.out]
          rfl
        have hxb : (x == y) = false := by simpa using hxy
        clear hxy
        go_wp2_with fail
        go_quiet (fail)
        generalize hwq : wr.drewN nq = wq
        have HOQ : Hid (wq.ownsRow base 2 1 (.slice (some ⟨g, 0, none⟩) n cap) n (ints l)) := by rw [← hwq]; exact HO
        have HGQ : Hid (w.grownBy wq (some g)) := by rw [← hwq]; exact ⟨HG.out.os, HG.out.tape, HG.out.output, HG.out.size, HG.out.block⟩
        clear hwq HO HG c1 c2 HX HY HU
        go_wp2_with fail
        go_roundw
        case rel => exact ⟨q + 1, by omega, by go_num, HU2, HOQ, HGQ⟩
        case measure => simp [intOf]; omega
    · have he : q + 1 = n := by omega
      have hU := HU.out
      rw [List.take_of_length_le (by rw [← HN.out]; omega)] at hU
      have HF := Lib.hid hU
      clear hU HU
      go_wp2_with fail
      go_ret
      refine ⟨_, rfl, ?_, HG.out⟩
      rw [HF.out, ← HN.out]; exact HO.out

end Go.Proofs.YtkkoooagamadjaaGreatDoor

namespace Go.Proofs.YtkkoooagamadjaaGreatDoor
open Go.RowKit

set_option maxHeartbeats 1000000 in
theorem compact_any (base : Nat) (v : Value) (l : List Int) (w : World) (hown : w.ownsRow base 2 1 v l.length (ints l)) (hs : l.Pairwise (fun a b => a ≤ b)) (hl : l.length ≤ 1000) :
    Calls Tryz.prog 57 #[v] w fun e w' => ∃ v', e = .returned v' ∧ w'.ownsRow base 2 1 v' (sortS l).length (ints (sortS l)) ∧ w.grownBy w' v.ownBlock := by
  by_cases h2 : l.length < 2
  · have he : sortS l = l := by
      refine int_uniq (sortS_ok _).1 ?_ (fun x => (sortS_ok _).2 x)
      match l, h2 with
      | [], _ => exact List.Pairwise.nil
      | [_], _ => exact List.pairwise_singleton _ _
    obtain ⟨ad, cap, hv⟩ := owns_len hown
    have HF : Hid (w.ownsRow base 2 1 v (sortS l).length (ints (sortS l))) := by unfold Hid; rw [he]; exact hown
    obtain ⟨n, hn⟩ : ∃ n, l.length = n := ⟨_, rfl⟩
    rw [hn] at hv h2
    subst hv
    have h2' : (n : Int) < 2 := by omega
    clear hown he hn hs
    go_enter Tryz.func57, Tryz.ntmps57
    go_wp2
    go_ret
    exact ⟨_, rfl, HF.out, ⟨rfl, rfl, rfl, Nat.le_refl _, fun _ _ _ => rfl⟩⟩
  · have hown' := hown
    rcases hown.2 with ⟨rfl, h0⟩ | ⟨g, cap, cur, rfl, hb, hg, hn, _⟩
    · omega
    · exact (compact_run g l.length cap base l w rfl (by omega) hl hs hown').mono fun e w' h => h

theorem sortK_S {l l' : List Int} (h : SortK (fun x : Int => x) l l') : sortS l' = sortS l := sortS_eq fun _ => h.perm.mem_iff
set_option maxRecDepth 100000 in
set_option maxHeartbeats 1000000 in
theorem sorted64_any {w : World} {v : Value} {l : List Int} (h : Reads w v (ints l)) (hl : l.length ≤ 12) :
    Calls Tryz.prog 23 #[v] w fun e w' => ∃ v', e = .returned v' ∧ w'.ownsRow w.heap.size 2 1 v' (sortS l).length (ints (sortS l)) ∧ Below w.heap.size w w' := by
  have HC := Lib.hid (clone64_any h (by omega))
  obtain ⟨ad, cap, e0, -⟩ := h.len
  subst e0
  clear h
  go_enter Tryz.func23, Tryz.ntmps23
  go_wp2_with fail
  refine HC.out.mono ?_
  rintro e w1 ⟨v1, rfl, ho1, hb1⟩
  obtain ⟨ad1, cap1, hv1⟩ := owns_len ho1
  have HSO := Lib.hid (sortI_any w.heap.size v1 l w1 ho1 hl)
  have HB1 := Lib.hid hb1
  have HLT := Lib.hid (fun k (hk : v1.ownBlock = some k) => (ho1.lt k hk).1)
  subst hv1
  clear ho1 hb1
  go_wp2_with fail
  refine HSO.out.mono ?_
  rintro e w2 ⟨rfl, l', hs', ho2, hg2⟩
  have hl' : l'.length = l.length := hs'.perm.length_eq
  rw [← hl'] at ho2
  have HB2 := Lib.hid (HB1.out.grown hg2 HB1.out.size (fun k hk => HLT.out k hk))
  have HCO := Lib.hid (compact_any w.heap.size _ l' w2 (by rw [hl'] at ho2 ⊢; exact ho2) hs'.sorted (by omega))
  have HE := Lib.hid (sortK_S hs')
  clear ho2 hg2 hs' hl'
  go_wp2_with fail
  refine HCO.out.mono ?_
  rintro e w3 ⟨v3, rfl, ho3, hg3⟩
  rw [HE.out] at ho3
  have HO3 := Lib.hid ho3
  have HB3 := Lib.hid (HB2.out.grown hg3 HB2.out.size (fun k hk => HLT.out k hk))
  obtain ⟨ad3, cap3, hv3⟩ := owns_len ho3
  subst hv3
  clear ho3 hg3
  go_wp2
  go_ret
  exact ⟨_, rfl, HO3.out, HB3.out⟩

end Go.Proofs.YtkkoooagamadjaaGreatDoor
