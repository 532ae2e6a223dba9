/- Sorted of warderref03 (printed by gen_srt.py). -/
import Derived.Test.YtjmggphnngffjaaSrt
import Derived.Test.YtjmggphnngffjaaBitsL
namespace Go.Proofs.Ytjmggphnngffjaa
open Go.RowKit

theorem info_int64 : (Try.prog.info? 2).map (fun i => (i.zero, i.size, i.bytes)) = some (some (.int .i64 0), 1, 8) := by kernel_rfl

set_option maxRecDepth 100000 in
set_option maxHeartbeats 8000000 in
theorem rsorted_any (v : Value) (l : List Int) (w : World) (hv : Reads w v (ints l)) (hl : l.length ≤ 65536) :
    Calls Try.prog 38 #[v] w fun e w' => ∃ v', e = .returned v' ∧ w'.ownsRow w.heap.size 2 1 v' (sortS l).length (ints (sortS l)) ∧ Below w.heap.size w w' := by
  obtain ⟨q, hq⟩ : ∃ q, l.length = q := ⟨_, rfl⟩
  obtain ⟨adl, capl, rfl, -⟩ := hv.len
  rw [ints_len, hq] at hv ⊢
  rw [hq] at hl
  have HQ := Lib.hid hq
  have HV := Lib.hid hv
  clear hq hv
  go_enter Try.func38, Try.ntmps38
  go_wp2
  go_loopw [3, 4, 5, 6, 7] (fun out i _ _ _ wr => ∃ k : Nat, i = .int .i64 k ∧ k ≤ q ∧ wr.ownsRow w.heap.size 2 1 out (sortS (l.take k)).length (ints (sortS (l.take k))) ∧ Below w.heap.size w wr) (fun _ i _ _ _ _ => q - (intOf i).toNat)
  case atStart => exact ⟨0, rfl, Nat.zero_le _, World.ownsRow_nil _ _ _ _, Below.refl _ _⟩
  case round =>
    obtain ⟨k, rfl, hk, hout, hbw⟩ := hrel
    obtain ⟨w1, rfl⟩ : ∃ w1, w1 = wr := ⟨_, rfl⟩
    by_cases hlt : k < q
    · have hkl : k < l.length := by rw [HQ.out]; exact hlt
      obtain ⟨x, hx⟩ : ∃ x, l[k]? = some x := ⟨_, List.getElem?_eq_getElem hkl⟩
      have HST := Lib.hid (sortS_succ l k x hx)
      obtain ⟨bl, ol, rfl, hcl⟩ := HV.out.at (by omega)
      have hcx := hcl k (.int .i64 x) (by simp [ints, hx])
      have hbl0 : bl < w.heap.size := World.block_lt_of_cell? w _ hcx
      have kx : w1.cell? ⟨bl, ol + k, none⟩ = some (.int .i64 x) := (hbw.cell (p := ⟨bl, ol + k, none⟩) hbl0).trans hcx
      have hbl : bl < w1.heap.size := Nat.lt_of_lt_of_le hbl0 hbw.size
      have hO : (sortS (l.take k)).length ≤ 65536 := by have := sortS_len (l.take k); rw [List.length_take] at this; omega
      obtain ⟨O, hOe⟩ : ∃ O, sortS (l.take k) = O := ⟨_, rfl⟩
      unfold Hid at HST
      rw [hOe] at HST hout hO
      have HST := Lib.hid HST
      obtain ⟨m, hm⟩ : ∃ m, O.length = m := ⟨_, rfl⟩
      rw [hm] at hout hO
      obtain ⟨ado, capo, rfl⟩ := owns_len hout
      have HM := Lib.hid hm
      have HOUT := Lib.hid hout
      have hwsz := hbw.size
      have HBW := Lib.hid hbw
      clear hm hout hx hcx hcl hOe hbw
      have p1 : (k : Int) < (q : Int) := by omega
      go_wp2
      go_loopw [5, 6, 7] (fun nx inn kk w2 => ∃ (j : Nat) (b : Bool), kk = .int .i64 j ∧ inn = .bool b ∧ j ≤ m ∧ w2.ownsRow w1.heap.size 2 1 nx (innS x (O.take j)).1.length (ints (innS x (O.take j)).1) ∧ (innS x (O.take j)).2 = b ∧ Below w1.heap.size w1 w2) (fun _ _ kk _ => m - (intOf kk).toNat)
      case atStart => exact ⟨0, false, rfl, rfl, Nat.zero_le _, World.ownsRow_nil _ _ _ _, rfl, Below.refl _ _⟩
      case round =>
        obtain ⟨j, b, rfl, rfl, hj, hown, hbb, hb⟩ := hrel
        have hsz := hb.size
        have hil := innS_len x (O.take j)
        rw [List.length_take] at hil
        obtain ⟨⟨L, b'⟩, hLe⟩ : ∃ s, innS x (O.take j) = s := ⟨_, rfl⟩
        rw [hLe] at hown hbb hil
        dsimp only at hown hbb hil
        subst hbb
        have hL1 : L.length ≤ 65537 := by have : b'.toNat ≤ 1 := by cases b' <;> decide
                                          omega
        have HI := Lib.hid hLe
        clear hil hLe
        by_cases hjm : j < m
        · have hjl : j < O.length := by rw [HM.out]; exact hjm
          obtain ⟨o, hjo⟩ : ∃ o, O[j]? = some o := ⟨_, List.getElem?_eq_getElem hjl⟩
          have HJ := Lib.hid hjo
          obtain ⟨bo, oo, rfl, hco⟩ := (Reads.of_owns HOUT.out).at (by omega)
          have k20 : w1.cell? ⟨bo, oo + j, none⟩ = some (.int .i64 o) := hco j _ (by simp [ints, hjo])
          have hbo : bo < w1.heap.size := World.block_lt_of_cell? w1 _ k20
          have k2 : wr.cell? ⟨bo, oo + j, none⟩ = some (.int .i64 o) := (hb.cell (p := ⟨bo, oo + j, none⟩) hbo).trans k20
          have k1 : wr.cell? ⟨bl, ol + k, none⟩ = some (.int .i64 x) := (hb.cell (p := ⟨bl, ol + k, none⟩) hbl).trans kx
          have p0 : (j : Int) < (m : Int) := by omega
          have q0 : (0 : Int) ≤ (k : Int) := by omega
          have q1 : (0 : Int) ≤ (j : Int) := by omega
          obtain ⟨nx, rfl⟩ : ∃ nx, nx = u5 := ⟨_, rfl⟩
          clear hjo hco k20 kx
          cases b'
          · by_cases hle : x ≤ o
            · by_cases heq : o = x
              · have HS : Hid (innS x (O.take (j + 1)) = (L ++ [x], true)) := by
                  unfold Hid; rw [innS_succ x O j o HJ.out, HI.out, stepS]; simp [heq]
                have p1 : decide (x ≤ o) = true := by simp [hle]
                have p2 : (o == x) = true := by simp [heq]
                have p3 : (o != x) = false := by simp [heq]
                clear hle heq
                go_wp2_with fail
                
                go_quiet (fail)
                obtain ⟨w3, hw3⟩ : ∃ W, wr.drewN nq = W := ⟨_, rfl⟩
                have Fw3 : w3.cell? ⟨bl, ol + k, none⟩ = some (.int .i64 x) ∧ w3.cell? ⟨bo, oo + j, none⟩ = some (.int .i64 o) ∧ w3.ownsRow w1.heap.size 2 1 nx (L).length (ints (L)) ∧ Below w1.heap.size w1 w3 := by
                  rw [← hw3]; exact ⟨k1, k2, hown, hb.os, hb.tape, hb.output, hb.size, hb.block⟩
                rw [hw3]
                clear hw3 k1 k2 hown hb
                obtain ⟨k1, k2, hown, hb⟩ := Fw3
                have hsz := hb.size
                
                go_wp2_with (at_builtin; refine app1 w3 #[.int .i64 x] rfl _ _ 35 rfl w1.heap.size 2 (.int .i64 0) 1 8 Try.underlying35 info_int64 rfl (by decide) (by decide) _ _ _ rfl (by exact hown) rfl (by simp) rfl (by simp [Value.oneCell']) (by omega) hsz ?_; intro nx4 w4 hown' hg' hb')
                have Fw4 : w4.cell? ⟨bl, ol + k, none⟩ = some (.int .i64 x) ∧ w4.cell? ⟨bo, oo + j, none⟩ = some (.int .i64 o) ∧ w4.ownsRow w1.heap.size 2 1 nx4 (L ++ [x]).length (ints (L ++ [x])) ∧ Below w1.heap.size w1 w4 :=
                  ⟨(hb'.cell (p := ⟨bl, ol + k, none⟩) hbl).trans k1, (hb'.cell (p := ⟨bo, oo + j, none⟩) hbo).trans k2, by simpa [ints] using hown', hb.trans hb'⟩
                clear hown hown' hb hb' hg' k1 k2 hsz
                obtain ⟨k1, k2, hown, hb⟩ := Fw4
                have hsz := hb.size
                have hlen4 : (L ++ [x]).length = L.length + 1 := by simp
                
                go_quiet (fail)
                obtain ⟨w5, hw5⟩ : ∃ W, w4.drewN nq = W := ⟨_, rfl⟩
                have Fw5 : w5.cell? ⟨bl, ol + k, none⟩ = some (.int .i64 x) ∧ w5.cell? ⟨bo, oo + j, none⟩ = some (.int .i64 o) ∧ w5.ownsRow w1.heap.size 2 1 nx4 (L ++ [x]).length (ints (L ++ [x])) ∧ Below w1.heap.size w1 w5 := by
                  rw [← hw5]; exact ⟨k1, k2, hown, hb.os, hb.tape, hb.output, hb.size, hb.block⟩
                rw [hw5]
                clear hw5 k1 k2 hown hb
                obtain ⟨k1, k2, hown, hb⟩ := Fw5
                have hsz := hb.size
                go_wp2
                go_roundw
                case rel => exact ⟨j + 1, true, by go_num, rfl, by omega, by rw [HS.out]; exact hown, by rw [HS.out], hb⟩
                case measure => simp [intOf]; omega
                
              · have HS : Hid (innS x (O.take (j + 1)) = (L ++ [x] ++ [o], true)) := by
                  unfold Hid; rw [innS_succ x O j o HJ.out, HI.out, stepS]; simp [hle, heq]
                have p1 : decide (x ≤ o) = true := by simp [hle]
                have p2 : (o == x) = false := by simp [heq]
                have p3 : (o != x) = true := by simp [heq]
                clear hle heq
                go_wp2_with fail
                
                go_quiet (fail)
                obtain ⟨w3, hw3⟩ : ∃ W, wr.drewN nq = W := ⟨_, rfl⟩
                have Fw3 : w3.cell? ⟨bl, ol + k, none⟩ = some (.int .i64 x) ∧ w3.cell? ⟨bo, oo + j, none⟩ = some (.int .i64 o) ∧ w3.ownsRow w1.heap.size 2 1 nx (L).length (ints (L)) ∧ Below w1.heap.size w1 w3 := by
                  rw [← hw3]; exact ⟨k1, k2, hown, hb.os, hb.tape, hb.output, hb.size, hb.block⟩
                rw [hw3]
                clear hw3 k1 k2 hown hb
                obtain ⟨k1, k2, hown, hb⟩ := Fw3
                have hsz := hb.size
                
                go_wp2_with (at_builtin; refine app1 w3 #[.int .i64 x] rfl _ _ 35 rfl w1.heap.size 2 (.int .i64 0) 1 8 Try.underlying35 info_int64 rfl (by decide) (by decide) _ _ _ rfl (by exact hown) rfl (by simp) rfl (by simp [Value.oneCell']) (by omega) hsz ?_; intro nx4 w4 hown' hg' hb')
                have Fw4 : w4.cell? ⟨bl, ol + k, none⟩ = some (.int .i64 x) ∧ w4.cell? ⟨bo, oo + j, none⟩ = some (.int .i64 o) ∧ w4.ownsRow w1.heap.size 2 1 nx4 (L ++ [x]).length (ints (L ++ [x])) ∧ Below w1.heap.size w1 w4 :=
                  ⟨(hb'.cell (p := ⟨bl, ol + k, none⟩) hbl).trans k1, (hb'.cell (p := ⟨bo, oo + j, none⟩) hbo).trans k2, by simpa [ints] using hown', hb.trans hb'⟩
                clear hown hown' hb hb' hg' k1 k2 hsz
                obtain ⟨k1, k2, hown, hb⟩ := Fw4
                have hsz := hb.size
                have hlen4 : (L ++ [x]).length = L.length + 1 := by simp
                
                go_quiet (fail)
                obtain ⟨w5, hw5⟩ : ∃ W, w4.drewN nq = W := ⟨_, rfl⟩
                have Fw5 : w5.cell? ⟨bl, ol + k, none⟩ = some (.int .i64 x) ∧ w5.cell? ⟨bo, oo + j, none⟩ = some (.int .i64 o) ∧ w5.ownsRow w1.heap.size 2 1 nx4 (L ++ [x]).length (ints (L ++ [x])) ∧ Below w1.heap.size w1 w5 := by
                  rw [← hw5]; exact ⟨k1, k2, hown, hb.os, hb.tape, hb.output, hb.size, hb.block⟩
                rw [hw5]
                clear hw5 k1 k2 hown hb
                obtain ⟨k1, k2, hown, hb⟩ := Fw5
                have hsz := hb.size
                
                go_wp2_with (at_builtin; refine app1 w5 #[.int .i64 o] rfl _ _ 35 rfl w1.heap.size 2 (.int .i64 0) 1 8 Try.underlying35 info_int64 rfl (by decide) (by decide) _ _ _ rfl (by exact hown) rfl (by simp) rfl (by simp [Value.oneCell']) (by omega) hsz ?_; intro nx6 w6 hown' hg' hb')
                have Fw6 : w6.cell? ⟨bl, ol + k, none⟩ = some (.int .i64 x) ∧ w6.cell? ⟨bo, oo + j, none⟩ = some (.int .i64 o) ∧ w6.ownsRow w1.heap.size 2 1 nx6 (L ++ [x] ++ [o]).length (ints (L ++ [x] ++ [o])) ∧ Below w1.heap.size w1 w6 :=
                  ⟨(hb'.cell (p := ⟨bl, ol + k, none⟩) hbl).trans k1, (hb'.cell (p := ⟨bo, oo + j, none⟩) hbo).trans k2, by simpa [ints] using hown', hb.trans hb'⟩
                clear hown hown' hb hb' hg' k1 k2 hsz
                obtain ⟨k1, k2, hown, hb⟩ := Fw6
                have hsz := hb.size
                go_roundw
                case rel => exact ⟨j + 1, true, by go_num, rfl, by omega, by rw [HS.out]; exact hown, by rw [HS.out], hb⟩
                case measure => simp [intOf]; omega
                
            · have heq : ¬ o = x := by omega
              have HS : Hid (innS x (O.take (j + 1)) = (L ++ [o], false)) := by
                unfold Hid; rw [innS_succ x O j o HJ.out, HI.out, stepS]; simp [hle, heq]
              have p1 : decide (x ≤ o) = false := by simp [hle]
              have p2 : (o == x) = false := by simp [heq]
              have p3 : (o != x) = true := by simp [heq]
              clear hle heq
              go_wp2_with fail

              go_quiet (fail)
              obtain ⟨w3, hw3⟩ : ∃ W, wr.drewN nq = W := ⟨_, rfl⟩
              have Fw3 : w3.cell? ⟨bl, ol + k, none⟩ = some (.int .i64 x) ∧ w3.cell? ⟨bo, oo + j, none⟩ = some (.int .i64 o) ∧ w3.ownsRow w1.heap.size 2 1 nx (L).length (ints (L)) ∧ Below w1.heap.size w1 w3 := by
                rw [← hw3]; exact ⟨k1, k2, hown, hb.os, hb.tape, hb.output, hb.size, hb.block⟩
              rw [hw3]
              clear hw3 k1 k2 hown hb
              obtain ⟨k1, k2, hown, hb⟩ := Fw3
              have hsz := hb.size
              go_wp2_with fail

              go_quiet (fail)
              obtain ⟨w5, hw5⟩ : ∃ W, w3.drewN nq = W := ⟨_, rfl⟩
              have Fw5 : w5.cell? ⟨bl, ol + k, none⟩ = some (.int .i64 x) ∧ w5.cell? ⟨bo, oo + j, none⟩ = some (.int .i64 o) ∧ w5.ownsRow w1.heap.size 2 1 nx (L).length (ints (L)) ∧ Below w1.heap.size w1 w5 := by
                rw [← hw5]; exact ⟨k1, k2, hown, hb.os, hb.tape, hb.output, hb.size, hb.block⟩
              rw [hw5]
              clear hw5 k1 k2 hown hb
              obtain ⟨k1, k2, hown, hb⟩ := Fw5
              have hsz := hb.size

              go_wp2_with (at_builtin; refine app1 w5 #[.int .i64 o] rfl _ _ 35 rfl w1.heap.size 2 (.int .i64 0) 1 8 Try.underlying35 info_int64 rfl (by decide) (by decide) _ _ _ rfl (by exact hown) rfl (by simp) rfl (by simp [Value.oneCell']) (by omega) hsz ?_; intro nx6 w6 hown' hg' hb')
              have Fw6 : w6.cell? ⟨bl, ol + k, none⟩ = some (.int .i64 x) ∧ w6.cell? ⟨bo, oo + j, none⟩ = some (.int .i64 o) ∧ w6.ownsRow w1.heap.size 2 1 nx6 (L ++ [o]).length (ints (L ++ [o])) ∧ Below w1.heap.size w1 w6 :=
                ⟨(hb'.cell (p := ⟨bl, ol + k, none⟩) hbl).trans k1, (hb'.cell (p := ⟨bo, oo + j, none⟩) hbo).trans k2, by simpa [ints] using hown', hb.trans hb'⟩
              clear hown hown' hb hb' hg' k1 k2 hsz
              obtain ⟨k1, k2, hown, hb⟩ := Fw6
              have hsz := hb.size
              go_roundw
              case rel => exact ⟨j + 1, false, by go_num, rfl, by omega, by rw [HS.out]; exact hown, by rw [HS.out], hb⟩
              case measure => simp [intOf]; omega
          · have hle : True := trivial
            by_cases heq : o = x
            · have HS : Hid (innS x (O.take (j + 1)) = (L, true)) := by
                unfold Hid; rw [innS_succ x O j o HJ.out, HI.out, stepS]; simp [heq]
              have p2 : (o == x) = true := by simp [heq]
              have p3 : (o != x) = false := by simp [heq]
              clear hle heq
              go_wp2_with fail
              
              go_quiet (fail)
              obtain ⟨w3, hw3⟩ : ∃ W, wr.drewN nq = W := ⟨_, rfl⟩
              have Fw3 : w3.cell? ⟨bl, ol + k, none⟩ = some (.int .i64 x) ∧ w3.cell? ⟨bo, oo + j, none⟩ = some (.int .i64 o) ∧ w3.ownsRow w1.heap.size 2 1 nx (L).length (ints (L)) ∧ Below w1.heap.size w1 w3 := by
                rw [← hw3]; exact ⟨k1, k2, hown, hb.os, hb.tape, hb.output, hb.size, hb.block⟩
              rw [hw3]
              clear hw3 k1 k2 hown hb
              obtain ⟨k1, k2, hown, hb⟩ := Fw3
              have hsz := hb.size
              go_wp2_with fail
              
              go_quiet (fail)
              obtain ⟨w5, hw5⟩ : ∃ W, w3.drewN nq = W := ⟨_, rfl⟩
              have Fw5 : w5.cell? ⟨bl, ol + k, none⟩ = some (.int .i64 x) ∧ w5.cell? ⟨bo, oo + j, none⟩ = some (.int .i64 o) ∧ w5.ownsRow w1.heap.size 2 1 nx (L).length (ints (L)) ∧ Below w1.heap.size w1 w5 := by
                rw [← hw5]; exact ⟨k1, k2, hown, hb.os, hb.tape, hb.output, hb.size, hb.block⟩
              rw [hw5]
              clear hw5 k1 k2 hown hb
              obtain ⟨k1, k2, hown, hb⟩ := Fw5
              have hsz := hb.size
              go_wp2
              go_roundw
              case rel => exact ⟨j + 1, true, by go_num, rfl, by omega, by rw [HS.out]; exact hown, by rw [HS.out], hb⟩
              case measure => simp [intOf]; omega
              
            · have HS : Hid (innS x (O.take (j + 1)) = (L ++ [o], true)) := by
                unfold Hid; rw [innS_succ x O j o HJ.out, HI.out, stepS]; simp [heq]
              have p2 : (o == x) = false := by simp [heq]
              have p3 : (o != x) = true := by simp [heq]
              clear hle heq
              go_wp2_with fail
              
              go_quiet (fail)
              obtain ⟨w3, hw3⟩ : ∃ W, wr.drewN nq = W := ⟨_, rfl⟩
              have Fw3 : w3.cell? ⟨bl, ol + k, none⟩ = some (.int .i64 x) ∧ w3.cell? ⟨bo, oo + j, none⟩ = some (.int .i64 o) ∧ w3.ownsRow w1.heap.size 2 1 nx (L).length (ints (L)) ∧ Below w1.heap.size w1 w3 := by
                rw [← hw3]; exact ⟨k1, k2, hown, hb.os, hb.tape, hb.output, hb.size, hb.block⟩
              rw [hw3]
              clear hw3 k1 k2 hown hb
              obtain ⟨k1, k2, hown, hb⟩ := Fw3
              have hsz := hb.size
              go_wp2_with fail
              
              go_quiet (fail)
              obtain ⟨w5, hw5⟩ : ∃ W, w3.drewN nq = W := ⟨_, rfl⟩
              have Fw5 : w5.cell? ⟨bl, ol + k, none⟩ = some (.int .i64 x) ∧ w5.cell? ⟨bo, oo + j, none⟩ = some (.int .i64 o) ∧ w5.ownsRow w1.heap.size 2 1 nx (L).length (ints (L)) ∧ Below w1.heap.size w1 w5 := by
                rw [← hw5]; exact ⟨k1, k2, hown, hb.os, hb.tape, hb.output, hb.size, hb.block⟩
              rw [hw5]
              clear hw5 k1 k2 hown hb
              obtain ⟨k1, k2, hown, hb⟩ := Fw5
              have hsz := hb.size
              
              go_wp2_with (at_builtin; refine app1 w5 #[.int .i64 o] rfl _ _ 35 rfl w1.heap.size 2 (.int .i64 0) 1 8 Try.underlying35 info_int64 rfl (by decide) (by decide) _ _ _ rfl (by exact hown) rfl (by simp) rfl (by simp [Value.oneCell']) (by omega) hsz ?_; intro nx6 w6 hown' hg' hb')
              have Fw6 : w6.cell? ⟨bl, ol + k, none⟩ = some (.int .i64 x) ∧ w6.cell? ⟨bo, oo + j, none⟩ = some (.int .i64 o) ∧ w6.ownsRow w1.heap.size 2 1 nx6 (L ++ [o]).length (ints (L ++ [o])) ∧ Below w1.heap.size w1 w6 :=
                ⟨(hb'.cell (p := ⟨bl, ol + k, none⟩) hbl).trans k1, (hb'.cell (p := ⟨bo, oo + j, none⟩) hbo).trans k2, by simpa [ints] using hown', hb.trans hb'⟩
              clear hown hown' hb hb' hg' k1 k2 hsz
              obtain ⟨k1, k2, hown, hb⟩ := Fw6
              have hsz := hb.size
              go_roundw
              case rel => exact ⟨j + 1, true, by go_num, rfl, by omega, by rw [HS.out]; exact hown, by rw [HS.out], hb⟩
              case measure => simp [intOf]; omega
              
        · obtain rfl : j = m := by omega
          have hI := HI.out
          rw [← HM.out, List.take_length] at hI
          cases b'
          · have HS : Hid (sortS (l.take (k + 1)) = L ++ [x]) := by unfold Hid; rw [HST.out, insS, hI]; rfl
            have k1 : wr.cell? ⟨bl, ol + k, none⟩ = some (.int .i64 x) := (hb.cell (p := ⟨bl, ol + k, none⟩) hbl).trans kx
            have q0 : (0 : Int) ≤ (k : Int) := by omega
            clear hI
            go_wp2_with (at_builtin; refine app1 wr #[.int .i64 x] rfl _ _ 35 rfl w1.heap.size 2 (.int .i64 0) 1 8 Try.underlying35 info_int64 rfl (by decide) (by decide) _ _ _ rfl (by exact hown) rfl (by simp) rfl (by simp [Value.oneCell']) (by omega) hsz ?_; intro nx4 w4 hown' hg' hb')
            have hown2 : w4.ownsRow w1.heap.size 2 1 nx4 (L ++ [x]).length (ints (L ++ [x])) := by simpa [ints] using hown'
            exact ⟨⟨k + 1, by go_num, by omega, by rw [HS.out]; exact owns_mono hown2 hwsz, HBW.out.trans ((hb.trans hb').mono hwsz)⟩, by simp [intOf]; omega⟩
          · have HS : Hid (sortS (l.take (k + 1)) = L) := by unfold Hid; rw [HST.out, insS, hI]; rfl
            clear hI
            go_wp2
            exact ⟨⟨k + 1, by go_num, by omega, by rw [HS.out]; exact owns_mono hown hwsz, HBW.out.trans (hb.mono hwsz)⟩, by simp [intOf]; omega⟩
    · obtain rfl : k = q := by omega
      have HS : Hid (l.take k = l) := by unfold Hid; rw [← HQ.out, List.take_length]
      go_wp2
      go_ret
      rw [HS.out] at hout
      exact ⟨_, rfl, hout, hbw⟩

end Go.Proofs.Ytjmggphnngffjaa
