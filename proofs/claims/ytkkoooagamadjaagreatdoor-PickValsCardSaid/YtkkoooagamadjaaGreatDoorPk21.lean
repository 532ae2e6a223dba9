/- warderref24: Put. warderref24: Put. -/
import Derived.Test.YtkkoooagamadjaaGreatDoorPk20

namespace Go.Proofs.YtkkoooagamadjaaGreatDoor
open Go.RowKit Go.Shelf

theorem bitZ_zero (a : Int) : bitZ a = 0 ↔ (a < 0 ∨ 30 < a) := by
  constructor
  · intro h
    apply Classical.byContradiction
    intro hn
    have h1 : 0 ≤ a ∧ a ≤ 30 := by omega
    have h2 := hasB_putZ 0 a a true
    rw [if_pos h1, if_pos rfl] at h2
    rw [show putZ 0 a true = 0 from h] at h2
    unfold hasB hasN at h2
    rw [if_pos h1] at h2
    simp at h2
  · intro h
    unfold bitZ
    rw [putZ_out _ _ _ h]
    decide

/-- how Put's list lies while it is built -/
structure RS (w : World) (v1 v2 out : Value) (zs : List Zn) (W : World) : Prop where
  z : Blk W w.heap.size #[v1, v2] 28
  zones : ZonesAt W (w.heap.size + 1) out zs
  low : Below w.heap.size w W
  lt : w.heap.size < W.heap.size
theorem RS.below {w W W' : World} {v1 v2 out : Value} {zs : List Zn} (h : RS w v1 v2 out zs W) (hb : Below W.heap.size W W') : RS w v1 v2 out zs W' :=
  ⟨h.z.keep hb, h.zones.below hb, h.low.trans (hb.mono h.low.size), Nat.lt_of_lt_of_le h.lt hb.size⟩
/-- one zone more -/
theorem RS.run {w W : World} {v1 v2 out c1 c2 : Value} {zs : List Zn} {z : Zn} {b : Nat} (h : RS w v1 v2 out zs W) (hz : ZoneAt W b c1 c2 z.1 z.2) (hb : w.heap.size + 1 ≤ b) (hl : zs.length ≤ 100000) (ty : TypeId) :
    ∃ ad cap w', (Builtin.append_ #[30, 30] ty #[out, .slice (some ⟨W.heap.size, 0, none⟩) 1 1]).run Tryz.prog (W.alloc (.cells #[c1, c2] 28)) = .ok (.slice ad (zs.length + 1) cap) w' ∧ RS w v1 v2 (.slice ad (zs.length + 1) cap) (zs ++ [z]) w' ∧
      (∀ (b' : Nat) (e : TypeId) (sz : Nat) (u : Value) (n : Nat) (xs : List Value), W.ownsRow b' e sz u n xs → 28 ≠ e → w'.ownsRow b' e sz u n xs) := by
  have hba : Below W.heap.size W (W.alloc (.cells #[c1, c2] 28)) := (Below.refl _ W).alloc (Nat.le_refl _) _
  have ha := h.below hba
  have hz2 := hz.below hba
  obtain ⟨ps, hpl, hr, hzz⟩ := ha.zones
  have o1 : c1.oneCell' = true := owns_one2 hz.1
  have o2 : c2.oneCell' = true := owns_one1 hz.2
  have hrd : RdK (W.alloc (.cells #[c1, c2] 28)) 2 (.slice (some ⟨W.heap.size, 0, none⟩) 1 1) 1 [c1, c2] := by
    refine ⟨_, _, rfl, rfl, .inr ⟨W.heap.size, 0, rfl, by simp, fun t x hx => ?_⟩⟩
    rw [World.cell?_alloc_at _ _ _ _ (by simp)]
    simpa using hx
  obtain ⟨v', w', hrun, ho, hg⟩ := appK_run (P := Tryz.prog) _ 30 ty 28 (.agg #[.slice none 0 0, .slice none 0 0]) 2 48 (w.heap.size + 1) Tryz.underlying30 info_zone rfl (by decide) (by decide) out zs.length (zcells ps) hr _ 1 [c1, c2] hrd (by simp [o1, o2]) (by omega) (by have := ha.lt; omega)
  obtain ⟨ad, cap, hv⟩ := owns_len ho
  subst hv
  refine ⟨ad, cap, w', hrun, ⟨ha.z.grown hg ?_, ZonesAt.app hpl hr hzz ⟨owns_mono hz2.1 hb, owns_mono hz2.2 hb⟩ ho hg, ha.low.grown hg ha.low.size (fun k hk => by have := (hr.lt k hk).1; omega), Nat.lt_of_lt_of_le ha.lt hg.size⟩, fun b' e sz u n xs hu he => owns_beside hr (owns_below hu hba) he hg⟩
  intro e
  have := (hr.lt _ e).1
  omega

theorem ZonesAt.lit {W : World} {c1 c2 : Value} {z : Zn} {b base : Nat} (hz : ZoneAt W b c1 c2 z.1 z.2) (hb : base ≤ b) (hw : base ≤ W.heap.size) : ZonesAt (W.alloc (.cells #[c1, c2] 28)) base (.slice (some ⟨W.heap.size, 0, none⟩) 1 1) [z] := by
  have hba : Below W.heap.size W (W.alloc (.cells #[c1, c2] 28)) := (Below.refl _ W).alloc (Nat.le_refl _) _
  have hz2 := hz.below hba
  refine ⟨[(c1, c2)], rfl, ?_, ?_⟩
  · exact owns_mono (World.ownsRow_lit W #[c1, c2] 1 (Nat.le_refl _) (by decide) rfl) hw
  · intro i p y h1 h2
    have hi : i = 0 := by have := (List.getElem?_eq_some_iff.1 h1).1; simp at this; omega
    subst hi
    simp only [List.getElem?_cons_zero, Option.some.injEq] at h1 h2
    subst h1; subst h2
    exact ⟨owns_mono hz2.1 hb, owns_mono hz2.2 hb⟩

end Go.Proofs.YtkkoooagamadjaaGreatDoor

namespace Go.Proofs.YtkkoooagamadjaaGreatDoor
open Go.RowKit Go.Shelf

def dnL (q j : Nat) : List Int := (List.range j).map fun t => ((q - t : Nat) : Int)
theorem dnL_succ (q j : Nat) : dnL q (j + 1) = dnL q j ++ [((q - j : Nat) : Int)] := by simp [dnL, List.range_succ]
theorem dnL_all (r : Int) (h1 : 1 ≤ r) (q : Nat) (hq : kap (r - 1) = q) : dnL q (q + 1) = (outL r).reverse := by
  unfold outL
  rw [if_neg (by omega), hq]
  apply List.ext_getElem
  · simp [dnL]
  · intro i a b
    simp only [dnL, List.length_map, List.length_range] at a
    simp only [dnL, List.getElem_map, List.getElem_range, List.getElem_reverse, List.length_map, List.length_range]
    congr 1
def upL (j : Nat) : List Int := (List.range j).map fun t : Nat => (t : Int)
theorem upL_succ (j : Nat) : upL (j + 1) = upL j ++ [(j : Int)] := by simp [upL, List.range_succ]
theorem upL_all (r : Int) (h1 : 1 ≤ r) (q : Nat) (hq : kap (r - 1) = q) : upL (q + 1) = outL r := by
  unfold outL upL
  rw [if_neg (by omega), hq]

set_option maxRecDepth 100000 in
set_option maxHeartbeats 4000000 in
theorem rput_any {w : World} {v1 v2 : Value} {cl : List (Int × Int)} {gl : List Int} {a r : Int} (hz : ZoneIn w v1 v2 cl gl) (hcl : cl.length ≤ 60) (hgl0 : gl.length ≤ 60) (hr2 : r ≤ 6) (hcap : ∀ ad n c, v1 = .slice ad n c → n ≤ c)
    (hxb : ∀ c ∈ cl, -9223372036854775808 ≤ c.1 ∧ c.1 ≤ 9223372036854775807) :
    Calls Tryz.prog 39 #[.agg #[v1, v2], .int .i64 a, .int .i64 r] w fun e w' => ∃ v', e = .returned v' ∧ ZonesAt w' w.heap.size v' (putL cl gl a r) ∧ Below w.heap.size w w' := by
  obtain ⟨ad1, k1, e1⟩ := hz.1.len
  obtain ⟨ad2, k2, e2⟩ := hz.2.len
  obtain ⟨n, hn⟩ : ∃ n, cl.length = n := ⟨_, rfl⟩
  obtain ⟨m, hm⟩ : ∃ m, gl.length = m := ⟨_, rfl⟩
  rw [hn] at e1; rw [hm] at e2
  subst e1; subst e2
  obtain ⟨W1, hW1⟩ : ∃ W1, w.alloc (.cells #[.slice ad1 n k1, .slice ad2 m k2] 28) = W1 := ⟨_, rfl⟩
  have hs1 : W1.heap.size = w.heap.size + 1 := by rw [← hW1]; simp
  have hb1 : Below w.heap.size w W1 := by rw [← hW1]; exact (Below.refl _ _).alloc (Nat.le_refl _) _
  have x1 : Blk W1 w.heap.size #[.slice ad1 n k1, .slice ad2 m k2] 28 := by rw [← hW1]; exact Blk.new _ _ _
  have HX1 := Lib.hid x1; have HB1 := Lib.hid hb1; have HZ := Lib.hid hz; have HCAP := Lib.hid hcap; have HXB := Lib.hid hxb
  have HN := Lib.hid hn; have HM := Lib.hid hm
  have c0 := x1.two.1; have c1 := x1.two.2
  rw [hn] at hcl; rw [hm] at hgl0
  clear hz hb1 x1 hn hm hcap hxb
  by_cases h1 : r < 1
  · have HE : Hid (putL cl gl a r = []) := by unfold Hid putL; rw [if_pos h1]
    go_enter Tryz.func39, Tryz.ntmps39
    go_wp2
    go_ret
    exact ⟨_, rfl, by rw [HE.out]; exact ZonesAt.nil _ _, HB1.out⟩
  by_cases h2 : a < 0
  · have HE : Hid (putL cl gl a r = []) := by unfold Hid putL; rw [if_neg h1, if_pos ((bitZ_zero a).2 (.inl h2))]
    go_enter Tryz.func39, Tryz.ntmps39
    go_wp2
    go_ret
    exact ⟨_, rfl, by rw [HE.out]; exact ZonesAt.nil _ _, HB1.out⟩
  by_cases h3 : 30 < a
  · have HE : Hid (putL cl gl a r = []) := by unfold Hid putL; rw [if_neg h1, if_pos ((bitZ_zero a).2 (.inr h3))]
    go_enter Tryz.func39, Tryz.ntmps39
    go_wp2
    go_ret
    exact ⟨_, rfl, by rw [HE.out]; exact ZonesAt.nil _ _, HB1.out⟩
  have hbz : bitZ a ≠ 0 := fun e => by have := (bitZ_zero a).1 e; omega
  by_cases h4 : m = n - 1
  · obtain rfl : m = n - 1 := h4
    have HPA : Hid (cl.any (fun c => hasB c.1 a) = false → putL cl gl a r = putA cl gl a r) := fun h => by
      unfold putL
      rw [if_neg h1, if_neg hbz, h, if_neg (by decide), HN.out, HM.out, if_pos rfl]
    have HPN : Hid (cl.any (fun c => hasB c.1 a) = true → putL cl gl a r = []) := fun h => by
      unfold putL
      rw [if_neg h1, if_neg hbz, h, if_pos rfl]
    have hp1 : (1 : Int) ≤ r := by omega
    have hp2 : ¬ (a < 0) := h2
    have hp3 : ¬ (30 < a) := h3
    have hwr : IntKind.i64.wrap (r - 1) = r - 1 := by rw [IntKind.wrap_i64]; omega
    have hcase : n = 0 ∨ 1 ≤ n := by omega
    clear hbz
    rcases hcase with rfl | hn1
    · have how := rown_any (w := W1) (a := a) (r := r) (cv := .slice none 0 0) (come := []) (HZ.out.below HB1.out) (RdK.zero _ _ _ _) 0 0 0 (Nat.zero_le _) (Nat.zero_le _) (Nat.zero_le _) (by rw [HN.out]; omega) (by rw [HM.out]; omega) (by simp) hp1 (by omega) HCAP.out
      rw [show ((0 : Nat) : Int) = 0 from rfl] at how
      have HOW := Lib.hid how
      have hE : putL cl gl a r = [ownZ cl gl a r 0 0 0 []] := by
        rw [HPA.out (by rw [show cl = [] from List.eq_nil_of_length_eq_zero HN.out]; rfl)]
        unfold putA
        rw [if_pos HN.out]
      have HE := Lib.hid hE
      clear how hE HPA HPN
      go_enter Tryz.func39, Tryz.ntmps39
      go_wp2_with fail
      go_loopw [8] (fun i wr => i = .int .i64 0 ∧ wr = W1) (fun _ _ => 0)
      case atStart => exact ⟨rfl, rfl⟩
      case round =>
        obtain ⟨rfl, rfl⟩ := hrel
        go_wp2_with fail
        refine HOW.out.mono ?_
        rintro e w5 ⟨c1', c2', rfl, hz5, hb5⟩
        obtain ⟨xa, xc, hx1⟩ := owns_len hz5.1
        obtain ⟨ya, yc, hy1⟩ := owns_len hz5.2
        subst hx1; subst hy1
        have hb6 := HB1.out.trans (hb5.mono HB1.out.size)
        have hl := ZonesAt.lit (base := w.heap.size) (z := ownZ cl gl a r 0 0 0 []) hz5 (by omega) hb6.size
        have HL := Lib.hid hl
        have HB6 := Lib.hid (hb6.alloc hb6.size (.cells #[.slice xa (ownC cl a 0).length xc, .slice ya (repG (clipL gl (r - 1)) 0 0 []).length yc] 28))
        clear hz5 hb5 hb6 hl
        go_wp2
        go_ret
        exact ⟨_, rfl, by rw [HE.out]; exact HL.out, HB6.out⟩
    · have hnz : ((n : Int) == 0) = false := by simp; omega
      have hz1 := (HZ.out.below HB1.out).1
      rw [HN.out] at hz1
      obtain ⟨b1, o1, rfl, hb1l, _⟩ := hz1.at (by omega)
      have HZ1 := Lib.hid hz1
      clear hz1
      go_enter Tryz.func39, Tryz.ntmps39
      go_wp2_with fail
      go_loopw [8] (fun i wr => ∃ k : Nat, k ≤ n ∧ i = .int .i64 k ∧ wr = W1 ∧ Hid ((cl.take k).any (fun c => hasB c.1 a) = false)) (fun i _ => n - (intOf i).toNat)
      case atStart => exact ⟨0, Nat.zero_le _, rfl, rfl, rfl⟩
      case round =>
        obtain ⟨k, hk, rfl, rfl, HT⟩ := hrel
        by_cases hlt : k < n
        · have hkn : (k : Int) < (n : Int) := by omega
          obtain ⟨xy, hxy⟩ : ∃ xy, cl[k]? = some xy := ⟨_, List.getElem?_eq_getElem (by rw [HN.out]; exact hlt)⟩
          obtain ⟨x, y⟩ := xy
          obtain ⟨b', o', e', _, d0, d1⟩ := HZ1.out.cls hxy (by omega)
          cases e'
          obtain ⟨hx0, hx1⟩ := HXB.out (x, y) (List.mem_of_getElem? hxy)
          have hT : Hid ((cl.take (k + 1)).any (fun c => hasB c.1 a) = hasB x a) := by
            obtain ⟨h1, h2⟩ := List.getElem?_eq_some_iff.1 hxy
            unfold Hid
            rw [List.take_succ_eq_append_getElem h1, List.any_append, HT.out, h2]
            simp
          have hA : Hid (hasB x a = true → cl.any (fun c => hasB c.1 a) = true) := fun h => List.any_eq_true.2 ⟨(x, y), List.mem_of_getElem? hxy, h⟩
          obtain ⟨q, hq⟩ : ∃ q, hasB x a = q := ⟨_, rfl⟩
          rw [hq] at hT hA
          have HQ := Lib.hid hq
          clear hxy hq
          go_wp2_with fail
          refine (rhas_any x a _ hx0 hx1).mono ?_
          rintro e w' ⟨rfl, rfl⟩
          rw [HQ.out]
          cases q
          · go_wp2
            go_roundw
            case rel => exact ⟨k + 1, by omega, by go_num, by first | trivial | rfl, hT.out⟩
            case measure => simp [intOf]; omega
          · go_wp2
            go_ret
            exact ⟨_, rfl, by rw [HPN.out (hA.out (by trivial))]; exact ZonesAt.nil _ _, HB1.out⟩
        · obtain rfl : k = n := by omega
          have hF := HT.out
          rw [show cl.take k = cl from by rw [← HN.out]; exact List.take_length] at hF
          have HL : Hid (putL cl gl a r = putA cl gl a r) := HPA.out hF
          obtain ⟨q, hq⟩ : ∃ q, kap (r - 1) = q := ⟨_, rfl⟩
          have hq31 : q ≤ 31 := by rw [← hq]; exact kap_small r hp1 hr2
          have HQ := Lib.hid hq
          have HE : Hid (putA cl gl a r = headZ cl gl a r (dnL q (q + 1)) ++ midZ cl gl a r k ++ tailZ cl gl a r (upL (q + 1))) := by
            unfold Hid putA
            rw [if_neg (by rw [HN.out]; omega), dnL_all r hp1 q hq, upL_all r hp1 q hq, HN.out]
          have hrs : RS w (.slice (some ⟨b1, o1, none⟩) k k1) (.slice ad2 (k - 1) k2) (.slice none 0 0) [] wr := ⟨HX1.out, ZonesAt.nil _ _, HB1.out, by omega⟩
          have HRS := Lib.hid hrs
          clear hF hq HT hrs HPA HPN
          go_wp2_with fail
          refine (rcap_any (r - 1) _).mono ?_
          rintro e w' ⟨rfl, rfl⟩
          rw [HQ.out]
          have hk60 : k ≤ 60 := hcl
          go_wp2_with fail
          go_loopw [9, 11] (fun out g wr => ∃ j : Nat, j ≤ q + 1 ∧ g = .int .i64 ((q : Int) - (j : Int)) ∧ Hid (RS w (.slice (some ⟨b1, o1, none⟩) k k1) (.slice ad2 (k - 1) k2) out (headZ cl gl a r (dnL q j)) wr)) (fun _ g _ => (intOf g + 1).toNat)
          case atStart => exact ⟨0, Nat.zero_le _, int_eq (by omega), HRS.out⟩
          case round =>
            clear HRS c0 c1
            obtain ⟨j, hj, rfl, HR⟩ := hrel
            obtain ⟨oad, ocap, ho⟩ := HR.out.zones.len
            subst ho
            have c0 := HR.out.z.two.1; have c1 := HR.out.z.two.2
            have hwl := HR.out.lt
            by_cases hlt : j < q + 1
            · obtain ⟨g, hg⟩ : ∃ g : Nat, q - j = g := ⟨_, rfl⟩
              have eg : (q : Int) - (j : Int) = (g : Int) := by omega
              rw [eg]
              have hg0 : (0 : Int) ≤ (g : Int) := by omega
              have hg31 : (g : Int) ≤ 31 := by omega
              have HGE : Hid ((g : Int) - 1 = (q : Int) - ((j + 1 : Nat) : Int)) := by unfold Hid; omega
              have hba : Below wr.heap.size wr (wr.alloc (.cells #[.int .i64 g] 3)) := (Below.refl _ _).alloc (Nat.le_refl _) _
              have hrd : RdK (wr.alloc (.cells #[.int .i64 g] 3)) 1 (.slice (some ⟨wr.heap.size, 0, none⟩) 1 1) [(g : Int)].length (ints [(g : Int)]) := by
                refine ⟨_, _, rfl, rfl, .inr ⟨wr.heap.size, 0, rfl, by simp, fun t x hx => ?_⟩⟩
                rw [World.cell?_alloc_at _ _ _ _ (by simp)]
                simpa [ints] using hx
              have how := rown_any (a := a) (r := r) (HZ.out.below (HR.out.low.trans (hba.mono HR.out.low.size))) hrd 0 0 0 (Nat.zero_le _) (Nat.zero_le _) (Nat.zero_le _) (by rw [HN.out]; omega) (by rw [HM.out]; omega) (by simp) hp1 (by omega) HCAP.out
              rw [show ((0 : Nat) : Int) = 0 from rfl] at how
              have HOW := Lib.hid how
              have HRA := Lib.hid (HR.out.below hba)
              have hS : Hid (headZ cl gl a r (dnL q j) ++ [ownZ cl gl a r 0 0 0 [(g : Int)]] = headZ cl gl a r (dnL q (j + 1))) := by unfold Hid; rw [dnL_succ, hg]; simp [headZ]
              have hl : (headZ cl gl a r (dnL q j)).length ≤ 100000 := by simp only [headZ, dnL, List.length_map, List.length_range]; omega
              have hs4 : wr.heap.size ≤ (wr.alloc (.cells #[.int .i64 g] 3)).heap.size := by simp
              obtain ⟨L, hL⟩ : ∃ L, (headZ cl gl a r (dnL q j)).length = L := ⟨_, rfl⟩
              have HLL := Lib.hid hL
              rw [hL] at hl
              rw [hL] at HR HRA
              rw [hL]
              clear hba hrd how hg HR eg hL
              go_wp2_with fail
              refine HOW.out.mono ?_
              rintro e w5 ⟨c1', c2', rfl, hz5, hb5⟩
              have hr5 := HRA.out.below hb5
              obtain ⟨ad5, cap5, w6, hrun, hr6, _⟩ := hr5.run (z := ownZ cl gl a r 0 0 0 [(g : Int)]) hz5 (by omega) (by rw [HLL.out]; exact hl) 30
              obtain ⟨xa, xc, hx1⟩ := owns_len hz5.1
              obtain ⟨ya, yc, hy1⟩ := owns_len hz5.2
              subst hx1; subst hy1
              rw [hS.out] at hr6
              rw [HLL.out] at hrun hr6
              have HR6 := Lib.hid hr6
              clear hz5 hb5 hr5 hr6 HOW HRA
              go_wp2_with (first | (at_builtin; refine wpList_append_known _ rfl _ _ _ _ rfl _ _ rfl rfl _ _ hrun ?_) | fail)
              go_roundw
              case rel => exact ⟨j + 1, by omega, int_eq HGE.out, HR6⟩
              case measure => simp [intOf]
            · obtain rfl : j = q + 1 := by omega
              rw [show ((q : Int) - ((q + 1 : Nat) : Int)) = -1 by omega]
              obtain ⟨H0, hH0⟩ : ∃ H0, headZ cl gl a r (dnL q (q + 1)) = H0 := ⟨_, rfl⟩
              have hH0l : H0.length ≤ 32 := by rw [← hH0]; simp only [headZ, dnL, List.length_map, List.length_range]; omega
              obtain ⟨N, hN⟩ : ∃ N, (headZ cl gl a r (dnL q (q + 1))).length = N := ⟨_, rfl⟩
              rw [hN] at HR ⊢
              rw [hH0] at HR HE
              have HHL : Hid (H0.length = N) := by unfold Hid; rw [← hH0]; exact hN
              clear hH0 hN hwl c0 c1
              go_wp2_with fail
              go_loopw [9, 12, 13, 14] (fun out i _ _ wr => ∃ j : Nat, j ≤ k ∧ i = .int .i64 j ∧ Hid (RS w (.slice (some ⟨b1, o1, none⟩) k k1) (.slice ad2 (k - 1) k2) out (H0 ++ midZ cl gl a r j) wr)) (fun _ i _ _ _ => k - (intOf i).toNat)
              case atStart => exact ⟨0, Nat.zero_le _, rfl, by unfold Hid; simpa [midZ] using HR.out⟩
              case round =>
                clear HR
                obtain ⟨j, hj, rfl, HR⟩ := hrel
                obtain ⟨oad, ocap, ho⟩ := HR.out.zones.len
                subst ho
                have c0 := HR.out.z.two.1; have c1 := HR.out.z.two.2
                have hwl := HR.out.lt
                have hZl : (H0 ++ midZ cl gl a r j).length ≤ 32 + 60 * 1025 := by
                  rw [List.length_append]
                  have m1 := midZ_len cl gl a r j hp1 hr2
                  have m3 : j * 1025 ≤ 60 * 1025 := Nat.mul_le_mul_right _ (by omega)
                  omega
                obtain ⟨Z, hZ⟩ : ∃ Z, H0 ++ midZ cl gl a r j = Z := ⟨_, rfl⟩
                have HZZ := Lib.hid hZ
                rw [hZ] at HR hZl
                rw [hZ]
                obtain ⟨L, hL⟩ : ∃ L, Z.length = L := ⟨_, rfl⟩
                have HLL := Lib.hid hL
                rw [hL] at HR hZl
                rw [hL]
                clear hZ hL
                by_cases hlt : j < k
                · have hjk : (j : Int) < (k : Int) := by omega
                  obtain ⟨xy, hxy⟩ : ∃ xy, cl[j]? = some xy := ⟨_, List.getElem?_eq_getElem (by rw [HN.out]; exact hlt)⟩
                  obtain ⟨x, y⟩ := xy
                  obtain ⟨hx0, hx1⟩ := HXB.out (x, y) (List.mem_of_getElem? hxy)
                  have HIN := Lib.hid (rin24_any (a := a) (r := r) (HZ.out.below HR.out.low) j x y hxy hx0 hx1 (by rw [HN.out]; omega) (by rw [HM.out]; omega) hp1 (by omega))
                  obtain ⟨Y, hY⟩ : ∃ Y, inCZ cl gl a r j x y = Y := ⟨_, rfl⟩
                  have HYY : Hid (inCZ cl gl a r j (cl.getD j (0, 0)).1 (cl.getD j (0, 0)).2 = Y) := by unfold Hid; rw [List.getD_eq_getElem?_getD, hxy]; exact hY
                  rw [hY] at HIN
                  clear hxy hY
                  go_wp2_with fail
                  refine HIN.out.mono ?_
                  rintro e w5 ⟨c1', c2', rfl, hz5, hb5⟩
                  have hr5 := HR.out.below hb5
                  obtain ⟨ad5, cap5, w6, hrun, hr6, _⟩ := hr5.run hz5 (by omega) (by rw [HLL.out]; omega) 30
                  obtain ⟨xa, xc, hx1'⟩ := owns_len hz5.1
                  obtain ⟨ya, yc, hy1'⟩ := owns_len hz5.2
                  subst hx1'; subst hy1'
                  rw [HLL.out] at hrun hr6
                  have HR6 := Lib.hid hr6
                  have d1 := hr6.z.two.2
                  have hw6 := hr6.lt
                  clear hz5 hb5 hr5 hr6 HIN HR c0 c1
                  by_cases hlast : j + 1 < k
                  · have hjl : (j : Int) < (k : Int) - 1 := by omega
                    have hkg : j < gl.length := by rw [HM.out]; omega
                    obtain ⟨g, hg⟩ : ∃ g, gl[j]? = some g := ⟨_, List.getElem?_eq_getElem hkg⟩
                    have hgd : gl.getD j 0 = g := by rw [List.getD_eq_getElem?_getD, hg]; rfl
                    have hz2 := (HZ.out.below HR6.out.low).2
                    rw [HM.out] at hz2
                    obtain ⟨gb, go, rfl, hgbl, hgc⟩ := hz2.at (by omega)
                    have cg : w6.cell? ⟨gb, go + j, none⟩ = some (.int .i64 g) := hgc j _ (by simp [ints, hg])
                    have hjg : (j : Int) < ((k - 1 : Nat) : Int) := by omega
                    have hsp := rpSplits_any g r w6 hr2
                    rw [← spl_ref g r (by omega)] at hsp
                    have HSP := Lib.hid hsp
                    obtain ⟨S, hS⟩ : ∃ S, splP g r = S := ⟨_, rfl⟩
                    have hSl : S.length ≤ 1024 := by rw [← hS]; exact splP_len g r hp1 hr2
                    rw [hS] at HSP
                    have HM2 : Hid (H0 ++ midZ cl gl a r (j + 1) = Z ++ [Y] ++ S.map fun s => ownZ cl gl a r (j + 1) j (j + 1) [s.1, s.2]) := by
                      unfold Hid
                      rw [midZ_succ, ← List.append_assoc, HZZ.out]
                      unfold stepZ
                      rw [if_pos (by rw [HN.out]; exact hlast), hgd, hS, HYY.out]
                      simp
                    obtain ⟨pp, hp⟩ : ∃ pp, S.length = pp := ⟨_, rfl⟩
                    have HPL := Lib.hid hp
                    rw [hp] at HSP hSl
                    obtain ⟨ZZ, hZZ2⟩ : ∃ ZZ, Z ++ [Y] = ZZ := ⟨_, rfl⟩
                    have hZZl : ZZ.length = L + 1 := by rw [← hZZ2, List.length_append, HLL.out]; rfl
                    have HZL := Lib.hid hZZl
                    rw [hZZ2] at HR6 HM2
                    clear hg hgd hz2 hgc hsp hS hp hZZ2 hZZl HYY HZZ
                    go_wp2_with (first | (at_builtin; refine wpList_append_known _ rfl _ _ _ _ rfl _ _ rfl rfl _ _ hrun ?_) | fail)
                    refine HSP.out.mono ?_
                    rintro e w7 ⟨sv, rfl, ho7, hb7⟩
                    obtain ⟨sad, scap, hsv⟩ := owns_len ho7
                    subst hsv
                    have HR7 := Lib.hid (HR6.out.below hb7)
                    have HO7 := Lib.hid (owns_mono ho7 (show w.heap.size + 1 ≤ w6.heap.size by omega))
                    clear ho7 hb7 HR6 HSP d1 cg hrun hgbl
                    go_wp2_with fail
                    go_loopw [9, 14] (fun out i wr => ∃ t : Nat, t ≤ pp ∧ i = .int .i64 t ∧ Hid (RS w (.slice (some ⟨b1, o1, none⟩) k k1) (.slice (some ⟨gb, go, none⟩) (k - 1) k2) out (ZZ ++ (S.take t).map fun s => ownZ cl gl a r (j + 1) j (j + 1) [s.1, s.2]) wr ∧ wr.ownsRow (w.heap.size + 1) 98 2 (.slice sad pp scap) pp (cellsP S))) (fun _ i _ => pp - (intOf i).toNat)
                    case atStart => exact ⟨0, Nat.zero_le _, rfl, by unfold Hid; exact ⟨by simpa using HR7.out, HO7.out⟩⟩
                    case round =>
                      clear HR7 HO7
                      obtain ⟨t, ht, rfl, HH⟩ := hrel
                      obtain ⟨oad', ocap', ho'⟩ := HH.out.1.zones.len
                      subst ho'
                      have c0 := HH.out.1.z.two.1; have c1 := HH.out.1.z.two.2
                      have hwl' := HH.out.1.lt
                      by_cases hlt2 : t < pp
                      · have htp : (t : Int) < (pp : Int) := by omega
                        have hrw := HH.out.2
                        obtain ⟨gs, scap', e1, hgs1, hgs2⟩ := owns_shape hrw (by omega)
                        simp only [Value.slice.injEq, true_and] at e1
                        obtain ⟨rfl, rfl⟩ := e1
                        obtain ⟨xy, hxy⟩ : ∃ xy, S[t]? = some xy := ⟨_, List.getElem?_eq_getElem (by rw [HPL.out]; exact hlt2)⟩
                        obtain ⟨x1, y1⟩ := xy
                        have cx := cellsP_get _ _ _ hxy
                        have d0 : wr.cell? ⟨gs, t * 2, none⟩ = some (.int .i64 x1) := by rw [hrw.cellAt _ (by omega)]; exact cx.1
                        have d1 : wr.cell? ⟨gs, t * 2 + 1, none⟩ = some (.int .i64 y1) := by rw [hrw.cellAt _ (by omega)]; exact cx.2
                        have hba : Below wr.heap.size wr (wr.alloc (.cells #[.int .i64 x1, .int .i64 y1] 3)).drew := ((Below.refl _ wr).alloc (Nat.le_refl _) _).drew
                        have hrd : RdK (wr.alloc (.cells #[.int .i64 x1, .int .i64 y1] 3)).drew 1 (.slice (some ⟨wr.heap.size, 0, none⟩) 2 2) [x1, y1].length (ints [x1, y1]) := by
                          refine ⟨_, _, rfl, rfl, .inr ⟨wr.heap.size, 0, rfl, by simp, fun t x hx => ?_⟩⟩
                          show (wr.alloc (.cells #[.int .i64 x1, .int .i64 y1] 3)).cell? _ = _
                          rw [World.cell?_alloc_at _ _ _ _ (by simp)]
                          simpa [ints] using hx
                        have how := rown_any (a := a) (r := r) (HZ.out.below (HH.out.1.low.trans (hba.mono HH.out.1.low.size))) hrd (j + 1) j (j + 1) (by rw [HN.out]; omega) (by rw [HM.out]; omega) (by rw [HM.out]; omega) (by rw [HN.out]; omega) (by rw [HM.out]; omega) (by simp) hp1 (by omega) HCAP.out
                        rw [show (((j + 1 : Nat)) : Int) = (j : Int) + 1 by omega] at how
                        have HOW := Lib.hid how
                        have HRA := Lib.hid (HH.out.1.below hba)
                        have HRW := Lib.hid (owns_below hrw hba)
                        have hS : Hid ((ZZ ++ (S.take t).map fun s => ownZ cl gl a r (j + 1) j (j + 1) [s.1, s.2]) ++ [ownZ cl gl a r (j + 1) j (j + 1) [x1, y1]] = ZZ ++ (S.take (t + 1)).map fun s => ownZ cl gl a r (j + 1) j (j + 1) [s.1, s.2]) := by
                          unfold Hid
                          have : S.take (t + 1) = S.take t ++ [(x1, y1)] := by
                            obtain ⟨h1, h2⟩ := List.getElem?_eq_some_iff.1 hxy
                            rw [List.take_succ_eq_append_getElem h1, h2]
                          rw [this, List.append_assoc]
                          simp
                        obtain ⟨NL, hNL⟩ : ∃ NL, (ZZ ++ (S.take t).map fun s => ownZ cl gl a r (j + 1) j (j + 1) [s.1, s.2]).length = NL := ⟨_, rfl⟩
                        have hNLl : NL ≤ 100000 := by rw [← hNL]; simp only [List.length_append, List.length_map, List.length_take, HZL.out]; omega
                        have HNL := Lib.hid hNL
                        rw [hNL]
                        rw [hNL] at HRA
                        have hwj : IntKind.i64.wrap ((j : Int) + 1) = (j : Int) + 1 := by rw [IntKind.wrap_i64]; omega
                        have ht0 : (0 : Int) ≤ (t : Int) := by omega
                        clear hrw hxy cx hba hrd how HH hNL
                        go_wp2_with fail
                        go_region_law (first
                          | (go_simp; go_at_call 69; (with_reducible refine HOW.out.mono ?_)
                             rintro e w9 ⟨c1', c2', rfl, hz9, hb9⟩
                             have hr9 := HRA.out.below hb9
                             obtain ⟨ad9, cap9, w10, hrun, hr10, hkeep⟩ := hr9.run (z := ownZ cl gl a r (j + 1) j (j + 1) [x1, y1]) hz9 (by simp only [World.size_alloc, World.size_drew]; omega) (by rw [HNL.out]; exact hNLl) 30
                             obtain ⟨xa', xc', hx1'⟩ := owns_len hz9.1
                             obtain ⟨ya', yc', hy1'⟩ := owns_len hz9.2
                             subst hx1'; subst hy1'
                             rw [hS.out] at hr10
                             rw [HNL.out] at hrun hr10
                             have HR10 := Lib.hid hr10
                             have hrw9 := owns_below HRW.out hb9
                             have HRW9 := Lib.hid (hkeep _ _ _ _ _ _ hrw9 (by decide))
                             clear hz9 hb9 hr9 hr10 hrw9 hkeep)
                          | (refine step_append_known (by rfl) (.tmp 105) (.tmp 126) 30 30 (by rfl) _ _ (by simp [Act.eval]) (by simp [Act.eval]) _ _ hrun ?_))
                        all_goals
                          go_wp2_with fail
                          go_roundw
                          case rel => exact ⟨t + 1, by omega, by go_num, HR10.out, HRW9.out⟩
                          case measure => simp [intOf]; omega
                      · obtain rfl : t = pp := by omega
                        have hh := HH.out.1
                        rw [show S.take t = S from by rw [← HPL.out]; exact List.take_length, ← HM2.out] at hh
                        obtain ⟨NL, hNL⟩ : ∃ NL, (ZZ ++ (S.take t).map fun s => ownZ cl gl a r (j + 1) j (j + 1) [s.1, s.2]).length = NL := ⟨_, rfl⟩
                        have hNL2 := hNL
                        rw [show S.take t = S from by rw [← HPL.out]; exact List.take_length, ← HM2.out] at hNL2
                        rw [hNL2] at hh
                        rw [hNL]
                        have HE2 := Lib.hid hh
                        clear hh HH hNL hNL2
                        go_wp2_with fail
                        go_roundw
                        case rel => exact ⟨j + 1, by omega, by go_num, HE2⟩
                        case measure => simp [intOf]; omega
                  · have hjl : ¬ ((j : Int) < (k : Int) - 1) := by omega
                    have HM2 : Hid (H0 ++ midZ cl gl a r (j + 1) = Z ++ [Y]) := by
                      unfold Hid
                      rw [midZ_succ, ← List.append_assoc, HZZ.out]
                      unfold stepZ
                      rw [if_neg (by rw [HN.out]; exact hlast), HYY.out]
                    go_wp2_with (first | (at_builtin; refine wpList_append_known _ rfl _ _ _ _ rfl _ _ rfl rfl _ _ hrun ?_) | fail)
                    go_roundw
                    case rel => exact ⟨j + 1, by omega, by go_num, by rw [HM2.out]; exact HR6⟩
                    case measure => simp [intOf]; omega
                · obtain rfl : j = k := by omega
                  have HE3 : Hid (putL cl gl a r = Z ++ tailZ cl gl a r (upL (q + 1))) := by
                    unfold Hid
                    rw [HL.out, HE.out, HZZ.out]
                  have hjj : ((j - 1 : Nat) : Int) = (j : Int) - 1 := by omega
                  go_wp2_with fail
                  go_loopw [9, 15] (fun out g wr => ∃ t : Nat, t ≤ q + 1 ∧ g = .int .i64 t ∧ Hid (RS w (.slice (some ⟨b1, o1, none⟩) j k1) (.slice ad2 (j - 1) k2) out (Z ++ tailZ cl gl a r (upL t)) wr)) (fun _ g _ => q + 1 - (intOf g).toNat)
                  case atStart => exact ⟨0, Nat.zero_le _, rfl, by unfold Hid; simpa [tailZ, upL] using HR.out⟩
                  case round =>
                    clear HR c0 c1 hwl
                    obtain ⟨t, ht, rfl, HR⟩ := hrel
                    obtain ⟨oad', ocap', ho'⟩ := HR.out.zones.len
                    subst ho'
                    have c0 := HR.out.z.two.1; have c1 := HR.out.z.two.2
                    have hwl := HR.out.lt
                    obtain ⟨NL, hNL⟩ : ∃ NL, (Z ++ tailZ cl gl a r (upL t)).length = NL := ⟨_, rfl⟩
                    have hNLl : NL ≤ 100000 := by rw [← hNL]; simp only [tailZ, upL, List.length_append, List.length_map, List.length_range, HLL.out]; omega
                    have HNL := Lib.hid hNL
                    rw [hNL] at HR
                    rw [hNL]
                    clear hNL
                    by_cases hlt2 : t < q + 1
                    · have htq : (t : Int) ≤ (q : Int) := by omega
                      have hba : Below wr.heap.size wr (wr.alloc (.cells #[.int .i64 t] 3)) := (Below.refl _ _).alloc (Nat.le_refl _) _
                      have hrd : RdK (wr.alloc (.cells #[.int .i64 t] 3)) 1 (.slice (some ⟨wr.heap.size, 0, none⟩) 1 1) [(t : Int)].length (ints [(t : Int)]) := by
                        refine ⟨_, _, rfl, rfl, .inr ⟨wr.heap.size, 0, rfl, by simp, fun t x hx => ?_⟩⟩
                        rw [World.cell?_alloc_at _ _ _ _ (by simp)]
                        simpa [ints] using hx
                      have how := rown_any (a := a) (r := r) (HZ.out.below (HR.out.low.trans (hba.mono HR.out.low.size))) hrd j (j - 1) (j - 1) (by rw [HN.out]; omega) (by rw [HM.out]; omega) (by rw [HM.out]; omega) (by rw [HN.out]; omega) (by rw [HM.out]; omega) (by simp) hp1 (by omega) HCAP.out
                      rw [hjj] at how
                      have HOW := Lib.hid how
                      have HRA := Lib.hid (HR.out.below hba)
                      have hs4 : wr.heap.size ≤ (wr.alloc (.cells #[.int .i64 t] 3)).heap.size := by simp
                      have hS : Hid (Z ++ tailZ cl gl a r (upL t) ++ [ownZ cl gl a r j (j - 1) (j - 1) [(t : Int)]] = Z ++ tailZ cl gl a r (upL (t + 1))) := by
                        unfold Hid; rw [upL_succ, List.append_assoc]; simp [tailZ, HN.out]
                      clear hba hrd how HR hjj
                      go_wp2_with fail
                      refine HOW.out.mono ?_
                      rintro e w5 ⟨c1', c2', rfl, hz5, hb5⟩
                      have hr5 := HRA.out.below hb5
                      obtain ⟨ad5, cap5, w6, hrun, hr6, _⟩ := hr5.run (z := ownZ cl gl a r j (j - 1) (j - 1) [(t : Int)]) hz5 (by omega) (by rw [HNL.out]; exact hNLl) 30
                      obtain ⟨xa, xc, hx1⟩ := owns_len hz5.1
                      obtain ⟨ya, yc, hy1⟩ := owns_len hz5.2
                      subst hx1; subst hy1
                      rw [hS.out] at hr6
                      rw [HNL.out] at hrun hr6
                      have HR6 := Lib.hid hr6
                      clear hz5 hb5 hr5 hr6 HOW HRA
                      go_wp2_with (first | (at_builtin; refine wpList_append_known _ rfl _ _ _ _ rfl _ _ rfl rfl _ _ hrun ?_) | fail)
                      go_roundw
                      case rel => exact ⟨t + 1, by omega, by go_num, HR6⟩
                      case measure => simp [intOf]; omega
                    · obtain rfl : t = q + 1 := by omega
                      have hneg : ¬ (((q + 1 : Nat) : Int) ≤ (q : Int)) := by omega
                      have hh := HR.out
                      rw [← HE3.out] at hh
                      have HF := Lib.hid hh
                      clear hh HR
                      go_wp2
                      go_ret
                      exact ⟨_, rfl, HF.out.zones.mono (Nat.le_succ _), HF.out.low⟩
  · have HE : Hid (putL cl gl a r = []) := by
      unfold Hid putL
      rw [if_neg h1, if_neg hbz, HN.out, HM.out, if_neg h4]
      split <;> rfl
    have hcase : n = 0 ∨ 1 ≤ n := by omega
    clear hbz
    rcases hcase with rfl | hn1
    · go_enter Tryz.func39, Tryz.ntmps39
      go_wp2
      all_goals
        go_ret
        exact ⟨_, rfl, by rw [HE.out]; exact ZonesAt.nil _ _, HB1.out⟩
    · go_enter Tryz.func39, Tryz.ntmps39
      go_wp2
      all_goals
        go_ret
        exact ⟨_, rfl, by rw [HE.out]; exact ZonesAt.nil _ _, HB1.out⟩

end Go.Proofs.YtkkoooagamadjaaGreatDoor
