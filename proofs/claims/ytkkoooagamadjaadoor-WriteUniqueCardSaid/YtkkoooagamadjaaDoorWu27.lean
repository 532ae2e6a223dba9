/- Chapter 25's example. warderref25.Unique; write.Less. The law WriteUnique. -/
import Derived.Test.YtkkoooagamadjaaDoorWu26

namespace Go.Proofs.YtkkoooagamadjaaDoor
open Go.RowKit Go.Shelf

def exZ : Zn := ([(3, -1)], [])
def exL : List Zn := [([(1, -1), (2, -1)], [0]), ([(3, -1)], []), ([(2, -1), (1, -1)], [0])]
theorem ex_flat : [exZ].flatMap (wrOne 0 1) = exL := by decide +kernel
theorem ex_write : writeL 1 [0] [exZ] = exL := by decide +kernel
theorem ex_ok : WrOK 1 [0] [exZ] := by
  refine ⟨by decide, by decide, ?_, ?_, ?_, trivial⟩
  · intro z hz
    rw [List.mem_singleton] at hz
    subst hz
    exact ⟨by decide, by decide⟩
  · rw [ex_flat]; decide
  · rw [ex_flat]
    intro y hy
    simp only [exL, List.mem_cons, List.not_mem_nil, or_false] at hy
    rcases hy with rfl | rfl | rfl
    all_goals
      refine ⟨⟨by decide, by decide⟩, ?_, ?_⟩
      · intro c hc
        simp only [List.mem_cons, List.not_mem_nil, or_false] at hc
        first
        | (rcases hc with rfl | rfl <;> exact ⟨⟨by decide, by decide⟩, ⟨by decide, by decide⟩⟩)
        | (subst hc; exact ⟨⟨by decide, by decide⟩, ⟨by decide, by decide⟩⟩)
      · intro g hg
        first
        | (cases hg; done)
        | (rw [List.mem_singleton] at hg; subst hg; exact ⟨by decide, by decide⟩)

theorem ZoneIn.cls {W : World} {c1 c2 : Value} {cl : List (Int × Int)} {gl : List Int} (h : ZoneIn W c1 c2 cl gl) {k : Nat} {x y : Int} (hk : cl[k]? = some (x, y)) :
    ∃ g off cap, c1 = .slice (some ⟨g, off, none⟩) cl.length cap ∧ W.cell? ⟨g, off + k * 2, none⟩ = some (.int .i64 x) := by
  obtain ⟨ad, cap, e⟩ := h.1.len
  have hr := h.1
  rw [e] at hr
  have hkl := (List.getElem?_eq_some_iff.1 hk).1
  obtain ⟨g, off, rfl, _, hc⟩ := hr.at (by omega)
  exact ⟨g, off, cap, e, hc _ _ (cellsP_get _ _ _ hk).1⟩

set_option maxRecDepth 100000 in
set_option maxHeartbeats 1000000 in
theorem awake25 {w : World} (ht : PTab w) : Calls Tryd.prog 6 #[] w fun e w' => e = .returned (.bool true) ∧ Below w.heap.size w w' := by
  obtain ⟨W1, hW1⟩ : ∃ W1, w.alloc (.cells #[.int .i64 3, .int .i64 (-1)] 42) = W1 := ⟨_, rfl⟩
  have hb1 : Below w.heap.size w W1 := by rw [← hW1]; exact (Below.refl _ _).alloc (Nat.le_refl _) _
  obtain ⟨W2, hW2⟩ : ∃ W2, W1.alloc (.cells #[.int .i64 0] 3) = W2 := ⟨_, rfl⟩
  have hb12 : Below W1.heap.size W1 W2 := by rw [← hW2]; exact (Below.refl _ _).alloc (Nat.le_refl _) _
  have hz1 : ZoneIn W1 (.slice (some ⟨w.heap.size, 0, none⟩) 1 1) (.slice none 0 0) exZ.1 exZ.2 := by
    refine ⟨⟨_, _, rfl, rfl, .inr ⟨w.heap.size, 0, rfl, by rw [← hW1]; simp, fun t x hx => ?_⟩⟩, RdK.zero _ _ _ _⟩
    rw [← hW1, World.cell?_alloc_at _ _ _ _ (by simp)]
    simpa [cellsP, exZ] using hx
  have hl : RdK W2 1 (.slice (some ⟨W1.heap.size, 0, none⟩) 1 1) 1 (ints [0]) := by
    refine ⟨_, _, rfl, rfl, .inr ⟨W1.heap.size, 0, rfl, by rw [← hW2]; simp, fun t x hx => ?_⟩⟩
    rw [← hW2, World.cell?_alloc_at _ _ _ _ (by simp)]
    simpa [ints] using hx
  have hb2 := hb1.trans (hb12.mono hb1.size)
  have hp := write_any (ht.keep hb2) 1 (hz1.below hb12) hl (by decide) (by decide) (by decide) ex_ok
  rw [ex_write] at hp
  have HP := Lib.hid hp
  have HB2 := Lib.hid hb2
  clear hz1 hl hp hb1 hb12 hb2 ht
  go_enter Tryd.func6, Tryd.ntmps6
  go_wp2_with fail
  refine HP.out.mono ?_
  rintro e w1 ⟨v', rfl, hz, hb⟩
  obtain ⟨ad, cap, hv⟩ := hz.len
  subst hv
  obtain ⟨g, off, c1, c2, rfl, -, -, d0, d1, z0⟩ := hz.at (k := 0) rfl
  obtain ⟨g', off', c3, c4, e1, -, -, d2, d3, z1⟩ := hz.at (k := 1) rfl
  cases e1
  obtain ⟨g', off', c5, c6, e1, -, -, d4, d5, z2⟩ := hz.at (k := 2) rfl
  cases e1
  obtain ⟨g0, o0, k0, rfl, f0⟩ := z0.cls (k := 0) (x := 1) (y := -1) rfl
  obtain ⟨g1, o1, k1, rfl, f1⟩ := z1.cls (k := 0) (x := 3) (y := -1) rfl
  obtain ⟨g2, o2, k2, rfl, f2⟩ := z2.cls (k := 1) (x := 1) (y := -1) rfl
  have HB := Lib.hid (HB2.out.trans (hb.mono HB2.out.size))
  simp only [Nat.zero_mul, Nat.one_mul, Nat.add_zero, List.length_cons, List.length_nil, Nat.zero_add, Nat.reduceAdd, Nat.reduceMul] at d0 d1 d2 d3 d4 d5 f0 f1 f2 ⊢
  clear hz hb z0 z1 z2 HP
  go_wp2
  go_ret
  exact ⟨rfl, HB.out⟩

end Go.Proofs.YtkkoooagamadjaaDoor

namespace Go.Proofs.YtkkoooagamadjaaDoor
open Go.RowKit Go.Shelf

set_option maxRecDepth 100000 in
set_option maxHeartbeats 2000000 in
theorem runique_any {w : World} {v0 : Value} {zs : List Zn} (h : ZIs w v0 zs) (hs : ∀ z ∈ zs, SmallZ z) (hl : zs.length ≤ 10000) :
    Calls Tryd.prog 12 #[v0] w fun e w' => ∃ v', e = .returned v' ∧ ZIs w' v' (uniqL zs) ∧ Below w.heap.size w w' := by
  obtain ⟨ad, cap, hv⟩ := h.len
  subst hv
  obtain ⟨n, hn⟩ : ∃ n, zs.length = n := ⟨_, rfl⟩
  have HN := Lib.hid hn; have HS := Lib.hid hs
  have HL := Lib.hid h
  rw [hn] at HL hl ⊢
  clear hn hs h
  go_enter Tryd.func12, Tryd.ntmps12
  go_wp2_with fail
  go_loopw [3, 4] (fun v i wr => ∃ (k : Nat) (x : Option Addr) (p y : Nat), k ≤ n ∧ i = .int .i64 k ∧ v = .slice x p y ∧ Hid (ZOf w wr (.slice x p y) (uniqL (zs.take k)) ∧ Below w.heap.size w wr)) (fun _ i _ => n - (intOf i).toNat)
  case atStart => exact ⟨0, none, 0, 0, Nat.zero_le _, rfl, rfl, ⟨ZOf.nil _ _, Below.refl _ _⟩⟩
  case round =>
    obtain ⟨k, x, p, y, hk, rfl, rfl, HU⟩ := hrel
    by_cases hlt : k < n
    · have hkn : (k : Int) < (n : Int) := by omega
      have hk0 : (0 : Int) ≤ (k : Int) := by omega
      obtain ⟨z, hz⟩ : ∃ z, zs[k]? = some z := ⟨_, List.getElem?_eq_getElem (by rw [HN.out]; exact hlt)⟩
      have hzs := HS.out z (List.mem_of_getElem? hz)
      obtain ⟨g, off, c1, c2, had, -, -, d0, d1, -⟩ := (HL.out.below HU.out.2).at hz
      subst had
      obtain ⟨g', off', c1', c2', had, -, hgl, d0', d1', hzi⟩ := HL.out.at hz
      simp only [Option.some.injEq, Addr.mk.injEq, and_true] at had
      obtain ⟨rfl, rfl⟩ := had
      have e0 := HU.out.2.cell (p := ⟨g, off + k * 2, none⟩) hgl
      have e1 := HU.out.2.cell (p := ⟨g, off + k * 2 + 1, none⟩) hgl
      rw [d0, d0'] at e0; rw [d1, d1'] at e1
      cases e0; cases e1
      obtain ⟨a1, k1, hc1⟩ := hzi.1.len
      obtain ⟨a2, k2, hc2⟩ := hzi.2.len
      subst hc1; subst hc2
      have hul := uniqL_len (zs.take k)
      rw [List.length_take] at hul
      have hplen : (uniqL (zs.take k)).length = p := by
        obtain ⟨a', b', e⟩ := HU.out.1.len
        simp only [Value.slice.injEq] at e
        exact e.2.1.symm
      have hsm : ∀ y ∈ uniqL (zs.take k), SmallZ y := fun y hy => HS.out y (List.mem_of_mem_take ((uniqL_mem _ _).1 hy))
      have HHA := Lib.hid (hasI_any (HU.out.1.zis HU.out.2) (hzi.below HU.out.2) hsm hzs (by omega))
      obtain ⟨t, ht⟩ : ∃ t, decide (z ∈ uniqL (zs.take k)) = t := ⟨_, rfl⟩
      rw [ht] at HHA
      have HTT : Hid (decide (z ∈ zs.take k) = t) := by unfold Hid; rw [← ht]; congr 1; rw [uniqL_mem]
      have HZI := Lib.hid hzi
      have htk : zs.take (k + 1) = zs.take k ++ [z] := by rw [List.take_add_one, hz]; rfl
      have HTK := Lib.hid htk
      have HPL := Lib.hid hplen
      have hg2 := hgl
      have HZK := Lib.hid hz
      clear hz hzs hzi hsm hul hplen htk ht d0' d1'
      go_wp2_with fail
      refine HHA.out.mono ?_
      rintro e W6 ⟨rfl, hb6⟩
      have HO6 := Lib.hid (HU.out.1.below hb6)
      have HB6 := Lib.hid (HU.out.2.trans (hb6.mono HU.out.2.size))
      obtain ⟨g', off', c1', c2', had, -, -, f0, f1, -⟩ := (HL.out.below HB6.out).at HZK.out
      simp only [Option.some.injEq, Addr.mk.injEq, and_true] at had
      obtain ⟨rfl, rfl⟩ := had
      have e0 := hb6.cell (p := ⟨g, off + k * 2, none⟩) (Nat.lt_of_lt_of_le hg2 HU.out.2.size)
      have e1 := hb6.cell (p := ⟨g, off + k * 2 + 1, none⟩) (Nat.lt_of_lt_of_le hg2 HU.out.2.size)
      rw [d0] at e0; rw [d1] at e1
      rw [f0] at e0; rw [f1] at e1
      cases e0; cases e1
      clear hb6 d0 d1 HHA HU hgl hg2
      cases t
      · have hno : z ∉ zs.take k := of_decide_eq_false HTT.out
        have hp2 : (uniqL (zs.take k)).length ≤ 100000 := by have := uniqL_len (zs.take k); rw [List.length_take] at this; omega
        obtain ⟨x', y', W9, hrun, ho9, -, hb9, -⟩ := HO6.out.app HZI.out HB6.out hp2 22
        rw [HPL.out] at hrun ho9
        have HU9 : Hid (ZOf w W9 (.slice x' (p + 1) y') (uniqL (zs.take (k + 1))) ∧ Below w.heap.size w W9) := by
          refine ⟨?_, hb9⟩
          have e : uniqL (zs.take (k + 1)) = uniqL (zs.take k) ++ [z] := by rw [HTK.out, uniqL_snoc, if_neg hno]
          rw [e]; exact ho9
        clear ho9 hb9 hno hp2
        go_wp2_with (first | (at_builtin; refine wpList_append_known _ rfl _ _ _ _ rfl _ _ rfl rfl _ _ hrun ?_; clear hrun f0 f1) | fail)
        go_roundw
        case rel => exact ⟨k + 1, x', p + 1, y', by omega, by go_num, rfl, HU9⟩
        case measure => simp [intOf]; omega
      · have hyes : z ∈ zs.take k := of_decide_eq_true HTT.out
        have HU9 : Hid (ZOf w W6 (.slice x p y) (uniqL (zs.take (k + 1))) ∧ Below w.heap.size w W6) := by
          refine ⟨?_, HB6.out⟩
          have e : uniqL (zs.take (k + 1)) = uniqL (zs.take k) := by rw [HTK.out, uniqL_snoc, if_pos hyes]
          rw [e]; exact HO6.out
        clear hyes
        go_wp2_with fail
        go_roundw
        case rel => exact ⟨k + 1, x, p, y, by omega, by go_num, rfl, HU9⟩
        case measure => simp [intOf]; omega
    · obtain rfl : k = n := by omega
      have hU := HU.out
      rw [List.take_of_length_le (by rw [HN.out]; exact Nat.le_refl _)] at hU
      have HF := Lib.hid (hU.1.zis hU.2)
      have HB := Lib.hid hU.2
      clear hU HU
      go_wp2
      go_ret
      exact ⟨_, rfl, HF.out, HB.out⟩

/-- whether a zone's text stands ahead of another one's -/
def lessZ (a b : Zn) : Bool := Op.bytesLess (zoneS a).toList (zoneS b).toList
theorem bl_asym : ∀ (x y : List UInt8), Op.bytesLess x y = true → Op.bytesLess y x = false
  | [], [], h => by simp [Op.bytesLess] at h
  | [], _ :: _, _ => by simp [Op.bytesLess]
  | _ :: _, [], h => by simp [Op.bytesLess] at h
  | a :: x, b :: y, h => by
    simp only [Op.bytesLess, Bool.or_eq_true, Bool.and_eq_true, decide_eq_true_eq, beq_iff_eq] at h
    rw [Bool.eq_false_iff]
    intro h2
    simp only [Op.bytesLess, Bool.or_eq_true, Bool.and_eq_true, decide_eq_true_eq, beq_iff_eq] at h2
    rcases h with h | ⟨rfl, h⟩
    · rcases h2 with h2 | ⟨rfl, h2⟩
      · exact absurd h (UInt8.lt_asymm h2)
      · exact UInt8.lt_irrefl _ h
    · rcases h2 with h2 | ⟨_, h2⟩
      · exact UInt8.lt_irrefl _ h2
      · rw [bl_asym x y h] at h2; cases h2
theorem bl_tri : ∀ (x y : List UInt8), Op.bytesLess x y = false → Op.bytesLess y x = false → x = y
  | [], [], _, _ => rfl
  | [], _ :: _, h, _ => by simp [Op.bytesLess] at h
  | _ :: _, [], _, h => by simp [Op.bytesLess] at h
  | a :: x, b :: y, h, h2 => by
    simp only [Op.bytesLess, Bool.or_eq_false_iff, decide_eq_false_iff_not] at h h2
    have e : a = b := by
      rcases UInt8.lt_or_le a b with h3 | h3
      · exact absurd h3 h.1
      · exact UInt8.le_antisymm (by rcases UInt8.lt_or_le b a with h4 | h4; exact absurd h4 h2.1; exact h4) h3
    subst e
    have h5 := h.2; have h6 := h2.2
    simp only [beq_self_eq_true, Bool.true_and] at h5 h6
    rw [bl_tri x y h5 h6]
theorem bl_refl : ∀ (x : List UInt8), Op.bytesLess x x = false
  | [] => rfl
  | a :: x => by
    have := bl_refl x
    simp [Op.bytesLess, this]
theorem less_facts (a b : Zn) : (lessZ a b = true → lessZ b a = false) ∧ ((lessZ a b = false ∧ lessZ b a = false) ↔ a = b) := by
  refine ⟨bl_asym _ _, ⟨fun ⟨h1, h2⟩ => ?_, ?_⟩⟩
  · have h := bl_tri _ _ h1 h2
    rw [ByteArray.toList_eq, ByteArray.toList_eq] at h
    exact zoneS_inj (Go.WideShapes.bytes_inj h)
  · rintro rfl
    exact ⟨bl_refl _, bl_refl _⟩

set_option maxRecDepth 100000 in
set_option maxHeartbeats 2000000 in
theorem less_any {w : World} (ht : PTab w) {a1 a2 b1 b2 : Value} {a b : Zn} (ha : ZoneIn w a1 a2 a.1 a.2) (hb : ZoneIn w b1 b2 b.1 b.2) (hsa : SmallZ a ∧ I64 a) (hsb : SmallZ b ∧ I64 b) :
    Calls Tryd.prog 7 #[.agg #[a1, a2], .agg #[b1, b2]] w fun e w' => e = .returned (.bool (lessZ a b)) ∧ Below w.heap.size w w' := by
  obtain ⟨xa, ka, e1⟩ := ha.1.len
  obtain ⟨xb, kb, e2⟩ := ha.2.len
  obtain ⟨xc, kc, e3⟩ := hb.1.len
  obtain ⟨xd, kd, e4⟩ := hb.2.len
  subst e1; subst e2; subst e3; subst e4
  obtain ⟨W1, hW1⟩ : ∃ W1, w.alloc (.cells #[.slice xa a.1.length ka, .slice xb a.2.length kb] 26) = W1 := ⟨_, rfl⟩
  have hs1 : W1.heap.size = w.heap.size + 1 := by rw [← hW1]; simp
  have hb1 : Below w.heap.size w W1 := by rw [← hW1]; exact (Below.refl _ _).alloc (Nat.le_refl _) _
  have x1 : Blk W1 w.heap.size #[.slice xa a.1.length ka, .slice xb a.2.length kb] 26 := by rw [← hW1]; exact Blk.new _ _ _
  obtain ⟨W2, hW2⟩ : ∃ W2, W1.alloc (.cells #[.slice xc b.1.length kc, .slice xd b.2.length kd] 26) = W2 := ⟨_, rfl⟩
  have hb2 : Below w.heap.size w W2 := by rw [← hW2]; exact hb1.alloc (by omega) _
  have x2 : Blk W2 w.heap.size #[.slice xa a.1.length ka, .slice xb a.2.length kb] 26 := by rw [← hW2]; exact x1.alloc _
  have y2 : Blk W2 W1.heap.size #[.slice xc b.1.length kc, .slice xd b.2.length kd] 26 := by rw [← hW2]; exact Blk.new _ _ _
  have HTA : Hid (∀ W, Below W2.heap.size W2 W → Calls Tryd.prog 9 #[.agg #[.slice xa a.1.length ka, .slice xb a.2.length kb]] W fun e w' => e = .returned (.string (zoneS a)) ∧ Below W.heap.size W w') := fun W hW => ztext_P ((ht.keep hb2).keep hW) ((ha.below hb2).below hW) hsa.1.1 hsa.1.2 hsa.2
  have HTB : Hid (∀ W, Below W2.heap.size W2 W → Calls Tryd.prog 9 #[.agg #[.slice xc b.1.length kc, .slice xd b.2.length kd]] W fun e w' => e = .returned (.string (zoneS b)) ∧ Below W.heap.size W w') := fun W hW => ztext_P ((ht.keep hb2).keep hW) ((hb.below hb2).below hW) hsb.1.1 hsb.1.2 hsb.2
  have HSF : Hid (∀ W, Below W2.heap.size W2 W → W.cell? ⟨w.heap.size, 0, none⟩ = some (.slice xa a.1.length ka) ∧ W.cell? ⟨w.heap.size, 1, none⟩ = some (.slice xb a.2.length kb) ∧ W.cell? ⟨W1.heap.size, 0, none⟩ = some (.slice xc b.1.length kc) ∧ W.cell? ⟨W1.heap.size, 1, none⟩ = some (.slice xd b.2.length kd)) :=
    fun W hW => ⟨(x2.keep hW).two.1, (x2.keep hW).two.2, (y2.keep hW).two.1, (y2.keep hW).two.2⟩
  obtain ⟨r0, r1, r2, r3⟩ := HSF.out W2 (Below.refl _ _)
  have HB2 := Lib.hid hb2
  obtain ⟨A, hA⟩ : ∃ A, zoneS a = A := ⟨_, rfl⟩
  obtain ⟨B, hB⟩ : ∃ B, zoneS b = B := ⟨_, rfl⟩
  have HLS : Hid (lessZ a b = Op.bytesLess A.toList B.toList) := by unfold Hid lessZ; rw [hA, hB]
  rw [hA] at HTA; rw [hB] at HTB
  have hbz : Below W2.heap.size W2 W2.drew := (Below.refl _ _).drew
  clear ht ha hb hsa hsb hb1 hb2 x1 x2 y2 hs1 hA hB
  go_enter Tryd.func7, Tryd.ntmps7
  go_wp2_with fail
  go_upto_region 1 with fail
  go_region_law (first
    | (go_simp; go_at_call 9; (with_reducible refine (HTA.out _ hbz).mono ?_)
       rintro e' w11 ⟨rfl, hbs⟩
       have hbz1 := hbz.trans (hbs.mono hbz.size)
       obtain ⟨s0, s1, s2, s3⟩ := HSF.out w11 hbz1
       clear hbs)
    | (go_simp; go_at_call 9; (with_reducible refine (HTB.out _ hbz1).mono ?_)
       rintro e' w12 ⟨rfl, hbs⟩
       have hbz2 := hbz1.trans (hbs.mono hbz1.size)
       have HFF := Lib.hid (HB2.out.trans (hbz2.mono HB2.out.size))
       clear hbs))
  all_goals
    go_wp2_with fail
    go_ret
    exact ⟨ret_bool (by rw [HLS.out]), HFF.out⟩

end Go.Proofs.YtkkoooagamadjaaDoor

namespace Go.Proofs.YtkkoooagamadjaaDoor
open Go.RowKit Go.Shelf

def bigZ (z : Zn) : Bool := decide (40 < z.1.length) || decide (40 < z.2.length)
theorem bigZ_small {z : Zn} (h : bigZ z = false) : SmallZ z := by
  unfold bigZ at h
  simp only [Bool.or_eq_false_iff, decide_eq_false_iff_not] at h
  exact ⟨by omega, by omega⟩

/- operations that may be guarded off: renamed, so that they are branched over -/
def mvNine : Op := Op.move (Operand.tmp 9)
theorem mvNine_is : Op.move (Operand.tmp 9) = mvNine := rfl
def notF : Op := Op.unOp UnOp.not 4 (Operand.tmp 48)
theorem notF_is : Op.unOp UnOp.not 4 (Operand.tmp 48) = notF := rfl
attribute [local go_sem] mvNine notF

set_option maxRecDepth 100000 in
set_option maxHeartbeats 4000000 in
theorem lawUnique_any {w : World} (ht : PTab w) {v0 a1 a2 b1 b2 : Value} {zs : List Zn} {a b : Zn} (h0 : ZIs w v0 zs) (ha : ZoneIn w a1 a2 a.1 a.2) (hb : ZoneIn w b1 b2 b.1 b.2) (hI0 : ∀ z ∈ zs, I64 z) (hIa : I64 a) (hIb : I64 b) :
    Calls Tryd.prog 3 #[v0, .agg #[a1, a2], .agg #[b1, b2]] w fun e w' => e = .returned (.bool true) ∧ Below w.heap.size w w' := by
  obtain ⟨ad, cap, hv⟩ := h0.len
  subst hv
  obtain ⟨n, hn⟩ : ∃ n, zs.length = n := ⟨_, rfl⟩
  obtain ⟨xa, ka, e1⟩ := ha.1.len
  obtain ⟨xb, kb, e2⟩ := ha.2.len
  obtain ⟨xc, kc, e3⟩ := hb.1.len
  obtain ⟨xd, kd, e4⟩ := hb.2.len
  subst e1; subst e2; subst e3; subst e4
  obtain ⟨W1, hW1⟩ : ∃ W1, w.alloc (.cells #[.slice xa a.1.length ka, .slice xb a.2.length kb] 26) = W1 := ⟨_, rfl⟩
  have hs1 : W1.heap.size = w.heap.size + 1 := by rw [← hW1]; simp
  have hb1 : Below w.heap.size w W1 := by rw [← hW1]; exact (Below.refl _ _).alloc (Nat.le_refl _) _
  have x1 : Blk W1 w.heap.size #[.slice xa a.1.length ka, .slice xb a.2.length kb] 26 := by rw [← hW1]; exact Blk.new _ _ _
  obtain ⟨W2, hW2⟩ : ∃ W2, W1.alloc (.cells #[.slice xc b.1.length kc, .slice xd b.2.length kd] 26) = W2 := ⟨_, rfl⟩
  have hb2 : Below w.heap.size w W2 := by rw [← hW2]; exact hb1.alloc (by omega) _
  have x2 : Blk W2 w.heap.size #[.slice xa a.1.length ka, .slice xb a.2.length kb] 26 := by rw [← hW2]; exact x1.alloc _
  have y2 : Blk W2 W1.heap.size #[.slice xc b.1.length kc, .slice xd b.2.length kd] 26 := by rw [← hW2]; exact Blk.new _ _ _
  have HSF : Hid (∀ W, Below W2.heap.size W2 W → W.cell? ⟨w.heap.size, 0, none⟩ = some (.slice xa a.1.length ka) ∧ W.cell? ⟨w.heap.size, 1, none⟩ = some (.slice xb a.2.length kb) ∧ W.cell? ⟨W1.heap.size, 0, none⟩ = some (.slice xc b.1.length kc) ∧ W.cell? ⟨W1.heap.size, 1, none⟩ = some (.slice xd b.2.length kd)) :=
    fun W hW => ⟨(x2.keep hW).two.1, (x2.keep hW).two.2, (y2.keep hW).two.1, (y2.keep hW).two.2⟩
  have HT := Lib.hid (ht.keep hb2); have HA := Lib.hid (ha.below hb2); have HB := Lib.hid (hb.below hb2); have HL := Lib.hid (h0.below hb2); have HB2 := Lib.hid hb2
  have HN := Lib.hid hn; have HI0 := Lib.hid hI0; have HIA := Lib.hid hIa; have HIB := Lib.hid hIb
  have HAW : Hid (∀ W, Below W2.heap.size W2 W → Calls Tryd.prog 6 #[] W fun e w' => e = .returned (.bool true) ∧ Below W.heap.size W w') := fun W hW => awake25 (HT.out.keep hW)
  have HGA : Hid (∀ W, Below W2.heap.size W2 W → Calls Tryd.prog 5 #[.agg #[.slice xa a.1.length ka, .slice xb a.2.length kb]] W fun e w' => e = .returned (.bool (bigZ a)) ∧ Below W.heap.size W w') := fun W hW => great_any (HA.out.below hW)
  have HGB : Hid (∀ W, Below W2.heap.size W2 W → Calls Tryd.prog 5 #[.agg #[.slice xc b.1.length kc, .slice xd b.2.length kd]] W fun e w' => e = .returned (.bool (bigZ b)) ∧ Below W.heap.size W w') := fun W hW => great_any (HB.out.below hW)
  obtain ⟨r0, r1, r2, r3⟩ := HSF.out W2 (Below.refl _ _)
  rw [hn] at HL ⊢
  obtain ⟨qa, hqa⟩ : ∃ q, bigZ a = q := ⟨_, rfl⟩
  obtain ⟨qb, hqb⟩ : ∃ q, bigZ b = q := ⟨_, rfl⟩
  have HQA := Lib.hid hqa; have HQB := Lib.hid hqb
  rw [hqa] at HGA; rw [hqb] at HGB
  clear h0 ht ha hb hn hI0 hIa hIb hb1 hb2 x1 x2 y2 hs1 hqa hqb
  by_cases h30 : 30 < n
  · have hp : (30 : Int) < (n : Int) := by omega
    have HF0 := Lib.hid (HAW.out W2 (Below.refl _ _))
    go_enter Tryd.func3, Tryd.ntmps3
    go_wp2_with fail
    refine HF0.out.mono ?_
    rintro e w9 ⟨rfl, hb9⟩
    have HF := Lib.hid (HB2.out.trans (hb9.mono HB2.out.size))
    clear hb9
    go_wp2
    go_ret
    exact ⟨rfl, HF.out⟩
  have hp : ¬ (30 : Int) < (n : Int) := by omega
  go_enter Tryd.func3, Tryd.ntmps3
  go_wp2_with fail
  refine (HGA.out W2 (Below.refl _ _)).mono ?_
  rintro e w3 ⟨rfl, hb3⟩
  have HB3 := Lib.hid hb3
  obtain ⟨s0, s1, s2, s3⟩ := HSF.out w3 hb3
  clear hb3 r0 r1 r2 r3
  cases qa
  rotate_left
  · go_wp2_with fail
    refine (HAW.out w3 HB3.out).mono ?_
    rintro e w9 ⟨rfl, hb9⟩
    have HF := Lib.hid (HB2.out.trans ((HB3.out.trans (hb9.mono HB3.out.size)).mono HB2.out.size))
    clear hb9
    go_wp2
    go_ret
    exact ⟨rfl, HF.out⟩
  go_wp2_with fail
  refine (HGB.out w3 HB3.out).mono ?_
  rintro e w4 ⟨rfl, hb4⟩
  have HB4 := Lib.hid (HB3.out.trans (hb4.mono HB3.out.size))
  clear hb4 s0 s1 s2 s3
  cases qb
  rotate_left
  · go_wp2_with fail
    refine (HAW.out w4 HB4.out).mono ?_
    rintro e w9 ⟨rfl, hb9⟩
    have HF := Lib.hid (HB2.out.trans ((HB4.out.trans (hb9.mono HB4.out.size)).mono HB2.out.size))
    clear hb9
    go_wp2
    go_ret
    exact ⟨rfl, HF.out⟩
  go_wp2_with fail
  go_loopw [7] (fun i wr => ∃ k : Nat, k ≤ n ∧ i = .int .i64 k ∧ Hid (Below W2.heap.size W2 wr) ∧ Hid (∀ j z, j < k → zs[j]? = some z → bigZ z = false)) (fun i _ => n - (intOf i).toNat)
  case atStart => exact ⟨0, Nat.zero_le _, rfl, HB4.out, fun j z h => by omega⟩
  case round =>
    clear HB3 HB4
    obtain ⟨k, hk, rfl, HBR, HE⟩ := hrel
    by_cases hlt : k < n
    · have hkn : (k : Int) < (n : Int) := by omega
      have hk0 : (0 : Int) ≤ (k : Int) := by omega
      obtain ⟨z, hz⟩ : ∃ z, zs[k]? = some z := ⟨_, List.getElem?_eq_getElem (by rw [HN.out]; exact hlt)⟩
      obtain ⟨g, off, c1, c2, had, -, -, d0, d1, hzi⟩ := (HL.out.below HBR.out).at hz
      subst had
      obtain ⟨p1, q1, hc1⟩ := hzi.1.len
      obtain ⟨p2, q2, hc2⟩ := hzi.2.len
      subst hc1; subst hc2
      have HG := Lib.hid (great_any hzi)
      obtain ⟨t, ht⟩ : ∃ t, bigZ z = t := ⟨_, rfl⟩
      have hgt : (decide (40 < z.1.length) || decide (40 < z.2.length)) = t := ht
      rw [hgt] at HG
      have HTT := Lib.hid ht; have HZ := Lib.hid hz
      clear hz hzi ht hgt
      go_wp2_with fail
      refine HG.out.mono ?_
      rintro e w5 ⟨rfl, hb5⟩
      have HB5 := Lib.hid (HBR.out.trans (hb5.mono HBR.out.size))
      clear hb5 d0 d1 HG HBR
      cases t
      · have HE2 : Hid (∀ j z, j < k + 1 → zs[j]? = some z → bigZ z = false) := Lib.hid fun j y hj hy => by
          by_cases hjk : j < k
          · exact HE.out j y hjk hy
          · obtain rfl : j = k := by omega
            have := HZ.out.symm.trans hy
            cases this
            exact HTT.out
        go_wp2_with fail
        go_roundw
        case rel => exact ⟨k + 1, by omega, by go_num, HB5, HE2⟩
        case measure => simp [intOf]; omega
      · go_wp2_with fail
        refine (HAW.out w5 HB5.out).mono ?_
        rintro e w9 ⟨rfl, hb9⟩
        have HF := Lib.hid (HB2.out.trans ((HB5.out.trans (hb9.mono HB5.out.size)).mono HB2.out.size))
        clear hb9
        go_wp2
        go_ret
        exact ⟨rfl, HF.out⟩
    · obtain rfl : k = n := by omega
      obtain ⟨wl, rfl⟩ : ∃ wl, wl = wr := ⟨_, rfl⟩
      have HSA : Hid (SmallZ a ∧ I64 a) := ⟨bigZ_small HQA.out, HIA.out⟩
      have HSB : Hid (SmallZ b ∧ I64 b) := ⟨bigZ_small HQB.out, HIB.out⟩
      have HSZ : Hid (∀ z ∈ zs, SmallZ z ∧ I64 z) := Lib.hid fun z hz => by
        refine ⟨?_, HI0.out z hz⟩
        obtain ⟨j, hj⟩ := List.getElem?_of_mem hz
        exact bigZ_small (HE.out j z (by have := (List.getElem?_eq_some_iff.1 hj).1; rw [HN.out] at this; exact this) hj)
      have HLA : Hid (∀ W, Below W2.heap.size W2 W → Calls Tryd.prog 7 #[.agg #[.slice xa a.1.length ka, .slice xb a.2.length kb], .agg #[.slice xc b.1.length kc, .slice xd b.2.length kd]] W fun e w' => e = .returned (.bool (lessZ a b)) ∧ Below W.heap.size W w') := fun W hW => less_any (HT.out.keep hW) (HA.out.below hW) (HB.out.below hW) HSA.out HSB.out
      have HLB : Hid (∀ W, Below W2.heap.size W2 W → Calls Tryd.prog 7 #[.agg #[.slice xc b.1.length kc, .slice xd b.2.length kd], .agg #[.slice xa a.1.length ka, .slice xb a.2.length kb]] W fun e w' => e = .returned (.bool (lessZ b a)) ∧ Below W.heap.size W w') := fun W hW => less_any (HT.out.keep hW) (HB.out.below hW) (HA.out.below hW) HSB.out HSA.out
      have HSM : Hid (∀ W, Below W2.heap.size W2 W → Calls Tryd.prog 8 #[.agg #[.slice xa a.1.length ka, .slice xb a.2.length kb], .agg #[.slice xc b.1.length kc, .slice xd b.2.length kd]] W fun e w' => e = .returned (.bool (decide (a = b))) ∧ Below W.heap.size W w') := fun W hW => by
        have := zsameNI_any _ _ _ _ a.1 b.1 a.2 b.2 W (HA.out.below hW) (HB.out.below hW) (by have := HSA.out.1.1; omega) (by have := HSA.out.1.2; omega) (by have := HSB.out.1.1; omega) (by have := HSB.out.1.2; omega)
        exact this
      have HTA : Hid (∀ W, Below W2.heap.size W2 W → Calls Tryd.prog 9 #[.agg #[.slice xa a.1.length ka, .slice xb a.2.length kb]] W fun e w' => e = .returned (.string (zoneS a)) ∧ Below W.heap.size W w') := fun W hW => ztext_P (HT.out.keep hW) (HA.out.below hW) HSA.out.1.1 HSA.out.1.2 HSA.out.2
      have HTB : Hid (∀ W, Below W2.heap.size W2 W → Calls Tryd.prog 9 #[.agg #[.slice xc b.1.length kc, .slice xd b.2.length kd]] W fun e w' => e = .returned (.string (zoneS b)) ∧ Below W.heap.size W w') := fun W hW => ztext_P (HT.out.keep hW) (HB.out.below hW) HSB.out.1.1 HSB.out.1.2 HSB.out.2
      obtain ⟨f1, f2⟩ := less_facts a b
      obtain ⟨f3, -⟩ := less_facts b a
      obtain ⟨p, hp1⟩ : ∃ p, lessZ a b = p := ⟨_, rfl⟩
      obtain ⟨q, hq1⟩ : ∃ q, lessZ b a = q := ⟨_, rfl⟩
      obtain ⟨s, hs1⟩ : ∃ s, decide (a = b) = s := ⟨_, rfl⟩
      obtain ⟨TA, hTA⟩ : ∃ t, zoneS a = t := ⟨_, rfl⟩
      obtain ⟨TB, hTB⟩ : ∃ t, zoneS b = t := ⟨_, rfl⟩
      have hlt2 : Op.bytesLess TA.toList TB.toList = p := by rw [← hTA, ← hTB]; exact hp1
      have HSS : Hid ((p = true → q = false) ∧ (q = true → p = false) ∧ ((p = false ∧ q = false) ↔ s = true)) := by
        rw [hp1, hq1] at f1 f2
        rw [hq1, hp1] at f3
        refine ⟨f1, f3, ?_⟩
        rw [f2, ← hs1, decide_eq_true_iff]
      rw [hp1] at HLA; rw [hq1] at HLB; rw [hs1] at HSM; rw [hTA] at HTA; rw [hTB] at HTB
      obtain ⟨s0, s1, s2, s3⟩ := HSF.out wl HBR.out
      have hbz : Below wl.heap.size wl wl.drew := (Below.refl _ _).drew
      have HBW : Hid (∀ W, Below wl.heap.size wl W → Below W2.heap.size W2 W) := Lib.hid fun W hW => HBR.out.trans (hW.mono HBR.out.size)
      clear f1 f2 f3 hp1 hq1 hs1 hTA hTB HE HQA HQB HGA HGB HSA HSB
      go_upto_region 8 with fail
      go_cut [8, 9] (fun s8 s9 wx => s8 = .bool p ∧ s9 = .bool q ∧ Hid (Below W2.heap.size W2 wx))
      case first =>
        go_region_law (first
          | (go_simp; go_at_call 7; (with_reducible refine (HLA.out _ (HBW.out _ hbz)).mono ?_)
             rintro e' w11 ⟨rfl, hbs⟩
             have hbz1 := hbz.trans (hbs.mono hbz.size)
             obtain ⟨u0, u1, u2, u3⟩ := HSF.out w11 (HBW.out _ hbz1)
             clear hbs)
          | (go_simp; go_at_call 7; (with_reducible refine (HLB.out _ (HBW.out _ hbz1)).mono ?_)
             rintro e' w12 ⟨rfl, hbs⟩
             have hbz2 := hbz1.trans (hbs.mono hbz1.size)
             have HFF := Lib.hid (HBW.out _ hbz2)
             clear hbs))
        all_goals
          go_wp2_with fail
          go_meet
          exact ⟨rfl, rfl, HFF.out⟩
      case rest =>
        clear s0 s1 s2 s3 hbz HBW HLA HLB HBR
        obtain ⟨rfl, rfl, HBR⟩ := hcut
        obtain ⟨wm, rfl⟩ : ∃ W, W = wc := ⟨_, rfl⟩
        obtain ⟨s0, s1, s2, s3⟩ := HSF.out wm HBR.out
        have hbz : Below W2.heap.size W2 wm.drew := HBR.out.drew
        go_upto_region 9 with fail
        go_cut [64] from 34 to 64 (fun s64 wx => s64 = .bool false ∧ Hid (Below W2.heap.size W2 wx))
        case first =>
          obtain ⟨h1, h2, h3⟩ := HSS.out
          have hcases : (p = true ∧ q = false ∧ s = false) ∨ (p = false ∧ q = true ∧ s = false) ∨ (p = false ∧ q = false ∧ s = true) := by
            cases p <;> cases q <;> cases s <;> simp_all
          clear h1 h2 h3 HSS
          rcases hcases with ⟨rfl, rfl, rfl⟩ | ⟨rfl, rfl, rfl⟩ | ⟨rfl, rfl, rfl⟩
          all_goals
            rw [mvNine_is, notF_is]
            first
            | (go_region_held3 (fun w' => w'.cell? ⟨w.heap.size, 0, none⟩ = some (.slice xa a.1.length ka) ∧ w'.cell? ⟨w.heap.size, 1, none⟩ = some (.slice xb a.2.length kb) ∧ w'.cell? ⟨W1.heap.size, 0, none⟩ = some (.slice xc b.1.length kc) ∧ w'.cell? ⟨W1.heap.size, 1, none⟩ = some (.slice xd b.2.length kd))
                   (first | (with_reducible exact HSF.out _ (by assumption)) | go_keep)
                   (first
                     | (go_simp; go_at_call 8; (with_reducible refine (HSM.out _ hbz).mono ?_)
                        rintro e' w11 ⟨rfl, hbs⟩
                        have hbz := hbz.trans (hbs.mono hbz.size)
                        clear hbs)
                     | (go_simp; go_at_call 9; (with_reducible refine (HTA.out _ hbz).mono ?_)
                        rintro e' w12 ⟨rfl, hbs⟩
                        have hbz := hbz.trans (hbs.mono hbz.size)
                        clear hbs)
                     | (go_simp; go_at_call 9; (with_reducible refine (HTB.out _ hbz).mono ?_)
                        rintro e' w13 ⟨rfl, hbs⟩
                        have hbz := hbz.trans (hbs.mono hbz.size)
                        clear hbs)))
            | fail
            all_goals
              go_wp2_with fail
              go_meet
              exact ⟨rfl, Lib.hid hbz⟩
        case rest =>
          clear s0 s1 s2 s3 hbz HBR HSS HSM HTA HTB hlt2
          obtain ⟨rfl, HBR⟩ := hcut
          obtain ⟨wn, rfl⟩ : ∃ W, W = wc := ⟨_, rfl⟩
          have HUN := Lib.hid (unique_any (HT.out.keep HBR.out) (HL.out.below HBR.out) HSZ.out (by rw [HN.out]; omega))
          go_wp2_with fail
          refine HUN.out.mono ?_
          rintro e w5 ⟨vu, rfl, hu, hb5⟩
          have HB5 := Lib.hid (HBR.out.trans (hb5.mono HBR.out.size))
          have HU5 := Lib.hid hu
          have HRU := Lib.hid (runique_any (HL.out.below HB5.out) (fun z hz => (HSZ.out z hz).1) (by rw [HN.out]; omega))
          clear hb5 hu HUN HBR
          go_wp2_with fail
          refine HRU.out.mono ?_
          rintro e w6 ⟨vr, rfl, hr, hb6⟩
          have HB6 := Lib.hid (HB5.out.trans (hb6.mono HB5.out.size))
          have HSL := Lib.hid (sameAllI_any (HU5.out.below hb6) hr (fun z hz => (HSZ.out z ((uniqL_mem _ _).1 hz)).1) (Nat.le_trans (uniqL_len zs) (by rw [HN.out]; omega)))
          clear hb6 hr HRU HB5 HU5
          go_wp2_with fail
          refine HSL.out.mono ?_
          rintro e w7 ⟨rfl, hb7⟩
          have HB7 := Lib.hid (HB6.out.trans (hb7.mono HB6.out.size))
          clear hb7 HSL HB6
          go_wp2_with fail
          refine (HAW.out w7 HB7.out).mono ?_
          rintro e w9 ⟨rfl, hb9⟩
          have HF := Lib.hid (HB2.out.trans ((HB7.out.trans (hb9.mono HB7.out.size)).mono HB2.out.size))
          clear hb9
          go_wp2
          go_ret
          exact ⟨rfl, HF.out⟩

end Go.Proofs.YtkkoooagamadjaaDoor
