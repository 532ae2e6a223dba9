/- The law DeclJoins. The law DeclJoins where one text is wrong. The law DeclJoins where both texts are right; the whole law. 'warder/warderlaw07.DeclJoins' returns true for every input and leaves its arguments as they were; no condition. The row lists package-level variables of Go's library with what they hold at the start; the card ties them to the program's text. -/
import Derived.Test.YthlofmnmacpogaaGreatDoorDj03
import Derived.Test.YthlofmnmacpogaaGreatDoorDj04
import Derived.Test.YthlofmnmacpogaaGreatDoorDf12
import Derived.Test.YthlofmnmacpogaaGreatDoorCards
import Derived.Test.YthlofmnmacpogaaGreatDoorTie
import Derived.Test.YthlofmnmacpogaaGreatDoorShelf
import Derived.WalkKit
import Derived.ProofKit
import Derived.OpenShut
import Derived.ChangeOld
import Derived.Below
import Derived.ShutString
import Derived.Deep.DeepHandedRow
import Derived.Lay
import Derived.Stop.Joined
import Derived.MakeChecks
import Derived.SizedLaws

namespace Go.Proofs.YthlofmnmacpogaaGreatDoor
open Go.RowKit

theorem readS_bad {T : List Tk} : ∀ (k : Nat) (i : Int) (out : List St) (er l c : Int), readS T k i out = .bad er l c → er ≠ 0
  | 0, i, out, er, l, c, h => by cases h
  | k + 1, i, out, er, l, c, h => by
    rw [readS] at h
    split at h
    · cases h
    · split at h
      · exact readS_bad k _ _ _ _ _ h
      · rename_i ho
        injection h with h1 h2 h3
        rw [← h1]; exact oneD_bad ho
theorem readD_bad {s : ByteArray} {er l c : Int} (h : readD s = .bad er l c) : er ≠ 0 := by
  unfold readD at h
  split at h
  · rename_i h0
    injection h with h1 h2 h3
    rw [← h1]; exact h0
  · exact readS_bad _ _ _ _ _ _ h
/-- what is read, or what was wrong, told short -/
theorem dread_gen (s : ByteArray) (w : World) (hm : MaxCell w) (hs : s.size ≤ 4294967200) :
    Calls Tryz.prog 8 #[.string s] w fun e w' => ∃ ad n cap er l c, e = .returned (.tuple #[.slice ad n cap, .agg #[.int .i64 er, .int .i64 l, .int .i64 c]]) ∧ ((er = 0 ∧ ∃ L, readD s = .ok L) ∨ (er ≠ 0 ∧ n = 0 ∧ ∃ e l c, readD s = .bad e l c)) ∧ Below w.heap.size w w' := by
  refine (dread_any s w hm hs).mono ?_
  cases h : readD s with
  | ok L =>
    rintro e w' ⟨l, v, hl, rfl, hr, hb⟩
    obtain ⟨ad, cap, rfl⟩ := owns_len hr.row
    exact ⟨ad, _, cap, 0, 0, 0, rfl, .inl ⟨rfl, L, rfl⟩, hb⟩
  | bad er l c =>
    rintro e w' ⟨rfl, hb⟩
    exact ⟨none, 0, 0, er, l, c, rfl, .inr ⟨readD_bad h, rfl, er, l, c, rfl⟩, hb⟩

theorem grown_refl (w : World) (row : Option Nat) : w.grownBy w row := ⟨rfl, rfl, rfl, Nat.le_refl _, fun _ _ _ => rfl⟩
/-- 'append(s, x...)' of a row, whatever it is, at a guarded operation -/
theorem app_row {P : Program} {w : World} {ops : Array Oper} {rest : List Oper} {o : Oper} {a : Act} {Q : Exit → Act → World → Prop} (hw : Region.wanted o (yielded ops a.tmps) = true) (s x : Operand) (t : TypeId)
    (ho : o.op = .call { callee := .builtin .append, args := #[s, x], argTypes := #[t, t] })
    (base : Nat) (e : TypeId) (z : Value) (size bytes : Nat) (ht : P.underlying t = some (.slice e)) (hinfo : (P.info? e).map (fun i => (i.zero, i.size, i.bytes)) = some (some z, size, bytes))
    (hzs : z.cells.size = size) (hsz : 0 < size) (v : Value) (n : Nat) (xs : List Value) (hs : a.eval s = v) (hown : w.ownsRow base e size v n xs)
    (u : Value) (b2 m : Nat) (news : List Value) (hx : a.eval x = u) (hu : w.ownsRow b2 e size u m news) (h1 : ∀ y ∈ news, y.oneCell' = true)
    (h63 : n + m ≤ maxLen) (hbytes : (n + m) * bytes ≤ 140737488355328) (hbase : base ≤ w.heap.size)
    (h : ∀ v' w', w'.ownsRow base e size v' (n + m) (xs ++ news) → w.grownBy w' v.ownBlock → wpList P ops Q rest (a.put o.dst v') w') : wpList P ops Q (o :: rest) a w := by
  obtain ⟨i, hi, hz0, hz1, hz2⟩ := info_parts hinfo
  refine wpList_step fun K hK => ?_
  rw [if_pos hw]
  rcases hu.2 with ⟨hu0, hm0⟩ | ⟨g, cap, cur, hu0, _⟩
  · subst hm0
    have hn : news = [] := List.eq_nil_of_length_eq_zero (by rw [hu.1]; omega)
    subst hn
    have hrun := run_append_owned_none (P := P) (w := w) base t o.type e i size ht hi v n xs hown
    unfold Oper.wp
    simp only [execOp, ho, resolve, invoke, builtin, Sem.run_bind, Sem.run_pure, Result.andThen_ok, List.map_toArray, List.map_cons, List.map_nil, hs, hx, hu0, hrun]
    exact hK _ _ (h v w (by rw [List.append_nil]; exact hown) (grown_refl _ _))
  · exact wp_append_own w s x t ho base e i z size bytes ht hi hz0 hz1 hz2 hzs hsz v n xs hs hown ⟨g, 0, none⟩ m cap news (by rw [hx, hu0]) hu.1 (fun j y hj => by
        have hlt := (List.getElem?_eq_some_iff.1 hj).1
        rw [hu.1] at hlt
        have hu' := hu
        rw [hu0] at hu'
        exact (show (⟨g, 0, none⟩ : Addr).add j = ⟨g, j, none⟩ by unfold Addr.add; split <;> simp_all) ▸ (World.ownsRow.cellAt hu' j hlt).trans hj) h1 h63 hbytes hbase fun v' w' h2 h3 _ => hK _ _ (h v' w' h2 h3)

end Go.Proofs.YthlofmnmacpogaaGreatDoor

namespace Go.Proofs.YthlofmnmacpogaaGreatDoor
open Go.RowKit

set_option maxRecDepth 100000 in
set_option maxHeartbeats 8000000 in
theorem joins_bad (a b : ByteArray) (w : World) (hm : MaxCell w) (ha : a.size ≤ 3000) (hb : b.size ≤ 3000) (hbad : ¬ ((∃ L, readD a = .ok L) ∧ ∃ L, readD b = .ok L)) :
    Calls Tryz.prog 5 #[.string a, .string b] w fun e w' => e = .returned (.bool true) ∧ Below w.heap.size w w' := by
  have HZ : 0 < w.heap.size := by obtain ⟨m, hm⟩ := hm; exact World.block_lt_of_cell? w _ hm
  have HA := Lib.hid (dread_gen a w hm (by omega))
  have HMX : Hid (∀ W, Below w.heap.size w W → MaxCell W) := fun W hW => hm.below hW HZ
  have HR : Hid (∀ W, Below w.heap.size w W → ∀ s : ByteArray, s.size ≤ 7000 → Calls Tryz.prog 8 #[.string s] W fun e w' => ∃ ad n cap er l c, e = .returned (.tuple #[.slice ad n cap, .agg #[.int .i64 er, .int .i64 l, .int .i64 c]]) ∧ ((er = 0 ∧ ∃ L, readD s = .ok L) ∨ (er ≠ 0 ∧ n = 0 ∧ ∃ e l c, readD s = .bad e l c)) ∧ Below W.heap.size W w') := fun W hW s hs => dread_gen s W (HMX.out W hW) (by omega)
  have HBAD := Lib.hid hbad
  have g0 : ¬ (3000 : Int) < (a.size : Int) := by omega
  have g1 : ¬ (3000 : Int) < (b.size : Int) := by omega
  have g2 : ¬ 9223372036854775807 < a.size + 1 := by omega
  have g3 : ¬ 9223372036854775807 < a.size + 1 + b.size := by omega
  have HSZ : Hid ((a ++ ⟨#[10]⟩ ++ b : ByteArray).size ≤ 7000) := by
    have := jn_size a b
    unfold jn at this
    unfold Hid
    omega
  have HSB : Hid (b.size ≤ 7000) := by unfold Hid; omega
  clear hm ha hb hbad HZ
  go_enter Tryz.func5, Tryz.ntmps5
  go_wp2_with fail
  refine HA.out.mono ?_
  rintro e w1 ⟨ad1, n1, cap1, er1, l1, c1, rfl, hc1, hb1⟩
  have hal1 := (Below.refl w1.heap.size w1).alloc (Nat.le_refl _) (.cells #[.int .i64 er1, .int .i64 l1, .int .i64 c1] 28)
  have f1 : FtB (w1.alloc (.cells #[.int .i64 er1, .int .i64 l1, .int .i64 c1] 28)) w1.heap.size er1 l1 c1 := heap_alloc_new w1 _
  have HF1 := Lib.hid f1
  have HB1 := Lib.hid ((hb1).trans (hal1.mono hb1.size))
  have hlt1 := f1.lt
  obtain ⟨W1, hW1⟩ : ∃ W, (w1.alloc (.cells #[.int .i64 er1, .int .i64 l1, .int .i64 c1] 28)) = W := ⟨_, rfl⟩
  rw [hW1] at HF1 HB1 hlt1
  have HC1 := Lib.hid hc1
  clear hc1 hb1 hal1 f1
  go_wp2_with fail
  refine (HR.out _ HB1.out b HSB.out).mono ?_
  rintro e w2 ⟨ad2, n2, cap2, er2, l2, c2, rfl, hc2, hb2⟩
  have hal2 := (Below.refl w2.heap.size w2).alloc (Nat.le_refl _) (.cells #[.int .i64 er2, .int .i64 l2, .int .i64 c2] 28)
  have f2 : FtB (w2.alloc (.cells #[.int .i64 er2, .int .i64 l2, .int .i64 c2] 28)) w2.heap.size er2 l2 c2 := heap_alloc_new w2 _
  have HF12 := Lib.hid ((HF1.out.below hb2).below hal2)
  have HF2 := Lib.hid f2
  have HB2 := Lib.hid ((HB1.out.trans (hb2.mono HB1.out.size)).trans (hal2.mono (Nat.le_trans HB1.out.size hb2.size)))
  obtain ⟨W2, hW2⟩ : ∃ W, (w2.alloc (.cells #[.int .i64 er2, .int .i64 l2, .int .i64 c2] 28)) = W := ⟨_, rfl⟩
  rw [hW2] at HF12 HF2 HB2
  have HC2 := Lib.hid hc2
  clear hc2 hb2 hal2 f2
  go_wp2_with fail
  refine (HR.out _ HB2.out _ HSZ.out).mono ?_
  rintro e w3 ⟨ad3, n3, cap3, er3, l3, c3, rfl, -, hb3⟩
  have hal3 := (Below.refl w3.heap.size w3).alloc (Nat.le_refl _) (.cells #[.int .i64 er3, .int .i64 l3, .int .i64 c3] 28)
  have f13 := (HF12.out.below hb3).below hal3
  have f23 := (HF2.out.below hb3).below hal3
  obtain ⟨p0, p1, p2⟩ := f13.facts
  obtain ⟨q0, q1, q2⟩ := f23.facts
  have HB3 := Lib.hid ((HB2.out.trans (hb3.mono HB2.out.size)).trans (hal3.mono (Nat.le_trans HB2.out.size hb3.size)))
  have HAW := Lib.hid (awake07 _ (HMX.out _ HB3.out))
  have HC : Hid ((er1 ≠ 0 ∧ n1 = 0 ∧ er2 = 0) ∨ (er1 ≠ 0 ∧ n1 = 0 ∧ er2 ≠ 0 ∧ n2 = 0) ∨ (er1 = 0 ∧ er2 ≠ 0 ∧ n2 = 0)) := by
    rcases HC1.out with ⟨x1, L1, y1⟩ | ⟨x1, z1, _⟩
    · rcases HC2.out with ⟨x2, L2, y2⟩ | ⟨x2, z2, _⟩
      · exact absurd ⟨⟨L1, y1⟩, L2, y2⟩ HBAD.out
      · exact .inr (.inr ⟨x1, x2, z2⟩)
    · rcases HC2.out with ⟨x2, L2, y2⟩ | ⟨x2, z2, _⟩
      · exact .inl ⟨x1, z1, x2⟩
      · exact .inr (.inl ⟨x1, z1, x2, z2⟩)
  clear hb3 hal3 f13 f23 HF1 HF12 HF2 hlt1
  rcases HC.out with ⟨a1, a2, a3⟩ | ⟨a1, a2, a3, a4⟩ | ⟨a1, a3, a4⟩
  · subst a2 a3
    have hne : (er1 == 0) = false := beq_eq_false_iff_ne.2 a1
    have hne2 : (er1 != 0) = true := by simpa using a1
    clear HC HC1 HC2 a1
    go_wp2_with fail
    refine HAW.out.mono ?_
    rintro e w4 ⟨rfl, hb4⟩
    have HB4 := Lib.hid (HB3.out.trans (hb4.mono HB3.out.size))
    clear hb4
    go_wp2
    go_ret
    exact ⟨rfl, HB4.out⟩
  · subst a2 a4
    have hne : (er1 == 0) = false := beq_eq_false_iff_ne.2 a1
    have hne2 : (er1 != 0) = true := by simpa using a1
    have hne3 : (er2 == 0) = false := beq_eq_false_iff_ne.2 a3
    have hne4 : (er2 != 0) = true := by simpa using a3
    clear HC HC1 HC2 a1 a3
    go_wp2_with fail
    refine HAW.out.mono ?_
    rintro e w4 ⟨rfl, hb4⟩
    have HB4 := Lib.hid (HB3.out.trans (hb4.mono HB3.out.size))
    clear hb4
    go_wp2
    go_ret
    exact ⟨rfl, HB4.out⟩
  · subst a1 a4
    have hne3 : (er2 == 0) = false := beq_eq_false_iff_ne.2 a3
    have hne4 : (er2 != 0) = true := by simpa using a3
    clear HC HC1 HC2 a3
    go_wp2_with fail
    refine HAW.out.mono ?_
    rintro e w4 ⟨rfl, hb4⟩
    have HB4 := Lib.hid (HB3.out.trans (hb4.mono HB3.out.size))
    clear hb4
    go_wp2
    go_ret
    exact ⟨rfl, HB4.out⟩

end Go.Proofs.YthlofmnmacpogaaGreatDoor

namespace Go.Proofs.YthlofmnmacpogaaGreatDoor
open Go.RowKit

theorem sv_one {w : World} {B : Nat} {v : Value} {l : List Sv} (h : StRow w B v l) : ∀ u ∈ svFlat l, u.oneCell' = true := by
  intro u hu
  unfold svFlat at hu
  obtain ⟨c, hc, huc⟩ := List.mem_flatten.1 hu
  obtain ⟨x, hx, rfl⟩ := List.mem_map.1 hc
  obtain ⟨a1, k1, e1⟩ := owns_len (h.nm x hx)
  obtain ⟨a2, k2, e2⟩ := owns_len (h.it x hx)
  simp only [svCells, List.mem_cons, List.not_mem_nil, or_false, e1, e2] at huc
  rcases huc with rfl | rfl | rfl | rfl | rfl | rfl | rfl | rfl | rfl | rfl | rfl | rfl <;> rfl
theorem svFlat_append (a b : List Sv) : svFlat (a ++ b) = svFlat a ++ svFlat b := by simp [svFlat]
/-- two rows, one behind the other -/
theorem SvRow.join {w : World} {base B1 B2 : Nat} {v v1 v2 : Value} {a b : List Sv} (h : w.ownsRow base 37 12 v (a.length + b.length) (svFlat a ++ svFlat b)) (h1 : StRow w B1 v1 a) (h2 : StRow w B2 v2 b) : SvRow w v (a ++ b) := by
  refine ⟨0, ?_, fun e he => ?_, fun e he => ?_⟩
  · rw [svFlat_append, List.length_append]
    exact owns_mono h (Nat.zero_le _)
  · rcases List.mem_append.1 he with q | q
    · exact owns_mono (h1.nm e q) (Nat.zero_le _)
    · exact owns_mono (h2.nm e q) (Nat.zero_le _)
  · rcases List.mem_append.1 he with q | q
    · exact owns_mono (h1.it e q) (Nat.zero_le _)
    · exact owns_mono (h2.it e q) (Nat.zero_le _)
/-- what is read, and how much -/
theorem readS_len {T : List Tk} : ∀ (k : Nat) (i : Int) (out l : List St), readS T k i out = .ok l → l.length ≤ out.length + k
  | 0, i, out, l, h => by injection h with h; subst h; omega
  | k + 1, i, out, l, h => by
    rw [readS] at h
    split at h
    · injection h with h; subst h; omega
    · split at h
      · have := readS_len k _ _ _ h
        rw [List.length_append, List.length_singleton] at this
        omega
      · cases h
theorem readD_len {s : ByteArray} {l : List St} (h : readD s = .ok l) : l.length ≤ 4100 := by
  unfold readD at h
  split at h
  · cases h
  · rename_i h0
    obtain ⟨X, hX, hl⟩ := tokRes_endD s (by omega)
    have := readS_len _ _ _ _ h
    rw [hX] at this
    simp at this
    omega

set_option maxRecDepth 100000 in
set_option maxHeartbeats 8000000 in
theorem joins_ok (a b : ByteArray) (w : World) (hm : MaxCell w) (ha : a.size ≤ 3000) (hb : b.size ≤ 3000) {LA LB : List St} (ra : readD a = .ok LA) (rb : readD b = .ok LB) :
    Calls Tryz.prog 5 #[.string a, .string b] w fun e w' => e = .returned (.bool true) ∧ Below w.heap.size w w' := by
  have HZ : 0 < w.heap.size := by obtain ⟨m, hm⟩ := hm; exact World.block_lt_of_cell? w _ hm
  have HJ := Lib.hid (jn_read ha hb ra rb)
  have HLA := Lib.hid (readD_len ra)
  have HLB := Lib.hid (readD_len rb)
  have HA := dread_any a w hm (by omega)
  rw [ra] at HA
  replace HA := Lib.hid HA
  have HMX : Hid (∀ W, Below w.heap.size w W → MaxCell W) := fun W hW => hm.below hW HZ
  have HR : Hid (∀ W, Below w.heap.size w W → Calls Tryz.prog 8 #[.string b] W (DReadPost W (.ok LB))) := fun W hW => by
    have := dread_any b W (HMX.out W hW) (by omega)
    rw [rb] at this; exact this
  have HSZ : a.size + 1 + b.size ≤ 7000 := by omega
  have HR3 : Hid (∀ W, Below w.heap.size w W → Calls Tryz.prog 8 #[.string (a ++ ⟨#[10]⟩ ++ b)] W (DReadPost W (readD (jn a b)))) := fun W hW => by
    have := jn_size a b
    exact dread_any (jn a b) W (HMX.out W hW) (by omega)
  have g0 : ¬ (3000 : Int) < (a.size : Int) := by omega
  have g1 : ¬ (3000 : Int) < (b.size : Int) := by omega
  have g2 : ¬ 9223372036854775807 < a.size + 1 := by omega
  have g3 : ¬ 9223372036854775807 < a.size + 1 + b.size := by omega
  clear hm ha hb HZ ra rb HSZ
  go_enter Tryz.func5, Tryz.ntmps5
  go_wp2_with fail
  refine HA.out.mono ?_
  rintro e w1 ⟨la, va, hla, rfl, hra, hb1⟩
  obtain ⟨ad1, cap1, rfl⟩ := owns_len hra.row
  have hal1 := (Below.refl w1.heap.size w1).alloc (Nat.le_refl _) (.cells #[.int .i64 0, .int .i64 0, .int .i64 0] 28)
  have f1 : FtB (w1.alloc (.cells #[.int .i64 0, .int .i64 0, .int .i64 0] 28)) w1.heap.size 0 0 0 := heap_alloc_new w1 _
  have HF1 := Lib.hid f1
  have HRA1 := Lib.hid (hra.below hal1)
  have HB1 := Lib.hid ((hb1).trans (hal1.mono hb1.size))
  obtain ⟨W1, hW1⟩ : ∃ W, (w1.alloc (.cells #[.int .i64 0, .int .i64 0, .int .i64 0] 28)) = W := ⟨_, rfl⟩
  rw [hW1] at HF1 HB1 HRA1
  replace hW1 := Lib.hid hW1
  have HLA2 : Hid (la.length ≤ 4100) := by unfold Hid; rw [← hla, List.length_map] at HLA; exact HLA.out
  have HLAM := Lib.hid hla
  clear hb1 hal1 f1 hra hla HLA HA
  go_wp2_with fail
  rw [hW1.out]
  refine (HR.out _ HB1.out).mono ?_
  rintro e w2 ⟨lb, vb, hlb, rfl, hrb, hb2⟩
  obtain ⟨ad2, cap2, rfl⟩ := owns_len hrb.row
  have hal2 := (Below.refl w2.heap.size w2).alloc (Nat.le_refl _) (.cells #[.int .i64 0, .int .i64 0, .int .i64 0] 28)
  have f2 : FtB (w2.alloc (.cells #[.int .i64 0, .int .i64 0, .int .i64 0] 28)) w2.heap.size 0 0 0 := heap_alloc_new w2 _
  have HF12 := Lib.hid ((HF1.out.below hb2).below hal2)
  have HF2 := Lib.hid f2
  have HRA2 := Lib.hid ((HRA1.out.below hb2).below hal2)
  have HRB2 := Lib.hid (hrb.below hal2)
  have HB2 := Lib.hid ((HB1.out.trans (hb2.mono HB1.out.size)).trans (hal2.mono (Nat.le_trans HB1.out.size hb2.size)))
  obtain ⟨W2, hW2⟩ : ∃ W, (w2.alloc (.cells #[.int .i64 0, .int .i64 0, .int .i64 0] 28)) = W := ⟨_, rfl⟩
  rw [hW2] at HF12 HF2 HB2 HRA2 HRB2
  replace hW2 := Lib.hid hW2
  have HLB2 : Hid (lb.length ≤ 4100) := by unfold Hid; rw [← hlb, List.length_map] at HLB; exact HLB.out
  have HLBM := Lib.hid hlb
  clear hb2 hal2 f2 hrb hlb HLB HR HF1 HRA1 hW1
  go_wp2_with fail
  rw [hW2.out]
  refine (HR3.out _ HB2.out).mono ?_
  rcases HJ.out with ⟨l9, c9, hbad⟩ | ⟨LA', LB', hok, hma, hmb⟩
  · rw [hbad]
    rintro e w3 ⟨rfl, hb3⟩
    have hal3 := (Below.refl w3.heap.size w3).alloc (Nat.le_refl _) (.cells #[.int .i64 3, .int .i64 l9, .int .i64 c9] 28)
    have f13 := (HF12.out.below hb3).below hal3
    have f23 := (HF2.out.below hb3).below hal3
    obtain ⟨p0, p1, p2⟩ := f13.facts
    obtain ⟨q0, q1, q2⟩ := f23.facts
    have HB3 := Lib.hid ((HB2.out.trans (hb3.mono HB2.out.size)).trans (hal3.mono (Nat.le_trans HB2.out.size hb3.size)))
    have HAW := Lib.hid (awake07 _ (HMX.out _ HB3.out))
    clear hb3 hal3 f13 f23 HF12 HF2 HRA2 HRB2 hbad HJ HR3
    go_wp2_with fail
    refine HAW.out.mono ?_
    rintro e w4 ⟨rfl, hb4⟩
    have HB4 := Lib.hid (HB3.out.trans (hb4.mono HB3.out.size))
    clear hb4
    go_wp2
    go_ret
    exact ⟨rfl, HB4.out⟩
  · rw [hok]
    rintro e w3 ⟨lc, vc, hlc, rfl, hrc, hb3⟩
    obtain ⟨ad3, cap3, rfl⟩ := owns_len hrc.row
    have hal3 := (Below.refl w3.heap.size w3).alloc (Nat.le_refl _) (.cells #[.int .i64 0, .int .i64 0, .int .i64 0] 28)
    have f33 : FtB (w3.alloc (.cells #[.int .i64 0, .int .i64 0, .int .i64 0] 28)) w3.heap.size 0 0 0 := heap_alloc_new w3 _
    have f13 := (HF12.out.below hb3).below hal3
    have f23 := (HF2.out.below hb3).below hal3
    have HRA3 := Lib.hid ((HRA2.out.below hb3).below hal3)
    have HRB3 := Lib.hid ((HRB2.out.below hb3).below hal3)
    have HRC3 := Lib.hid (hrc.below hal3)
    have HB3 := Lib.hid ((HB2.out.trans (hb3.mono HB2.out.size)).trans (hal3.mono (Nat.le_trans HB2.out.size hb3.size)))
    obtain ⟨W3, hW3⟩ : ∃ W, (w3.alloc (.cells #[.int .i64 0, .int .i64 0, .int .i64 0] 28)) = W := ⟨_, rfl⟩
    rw [hW3] at f13 f23 f33 HB3 HRA3 HRB3 HRC3
    replace hW3 := Lib.hid hW3
    go_upto_region 6 with fail
    rw [hW3.out]
    have hal4 := (Below.refl W3.heap.size W3).alloc (Nat.le_refl _) (.cells #[] 37)
    obtain ⟨p0, p1, p2⟩ := f13.facts
    obtain ⟨q0, q1, q2⟩ := f23.facts
    obtain ⟨s0, s1, s2⟩ := f33.facts
    have OWN : Hid ((W3.alloc (.cells #[] 37)).ownsRow W3.heap.size 37 12 (.slice (some ⟨W3.heap.size, 0, none⟩) 0 0) 0 []) :=
      World.ownsRow_lit (e := 37) (size := 12) W3 #[] 0 (Nat.le_refl _) (Nat.zero_le _) (by simp)
    have HRA4 := Lib.hid (HRA3.out.below hal4)
    have HRB4 := Lib.hid (HRB3.out.below hal4)
    have HH4 := Lib.hid hal4
    have HLC : Hid ((lc.map (·.1)).map bareS = ((la ++ lb).map (·.1)).map bareS) := by
      unfold Hid
      rw [hlc, List.map_append, List.map_append, List.map_append, HLAM.out, HLBM.out, hma, hmb]
    clear hb3 hal3 f13 f23 f33 HF12 HF2 HRA2 HRB2 hok HJ HR3 hlc hma hmb hrc hal4 hW2
    go_wp2_with (at_builtin; refine app_row rfl _ _ 23 rfl W3.heap.size 37 _ 12 160 Tryz.underlying23 info_stmt rfl (by decide) _ _ _ rfl OWN.out _ _ _ _ rfl HRA4.out.row (sv_one HRA4.out) (by have := HLA2.out; unfold maxLen; omega) (by have := HLA2.out; omega) (by simp) ?_)
    intro v4 w4 own4 grow4
    have hb4 : Below W3.heap.size W3 w4 := HH4.out.trans (below_of_grown grow4 (fun k e => by
      have e2 : some W3.heap.size = some k := e
      injection e2 with e2; omega) HH4.out.size)
    have hlt4 := hb4.size
    obtain ⟨g4, cap4, e4⟩ := owns_len own4
    have hg4 : ∀ k, v4.ownBlock = some k → W3.heap.size ≤ k := fun k hk => (own4.lt k hk).1
    have OWN4 := Lib.hid own4
    have HB4 := Lib.hid hb4
    have HRB5 := Lib.hid (HRB3.out.below hb4)
    have HG4 := Lib.hid hg4
    clear own4 grow4 hb4 hg4
    subst e4
    go_wp2_with (at_builtin; refine app_row rfl _ _ 23 rfl W3.heap.size 37 _ 12 160 Tryz.underlying23 info_stmt rfl (by decide) _ _ _ rfl OWN4.out _ _ _ _ rfl HRB5.out.row (sv_one HRB5.out) (by have := HLA2.out; have := HLB2.out; unfold maxLen; omega) (by have := HLA2.out; have := HLB2.out; omega) hlt4 ?_)
    intro v5 w5 own5 grow5
    have hb5 : Below W3.heap.size W3 w5 := HB4.out.trans (below_of_grown grow5 HG4.out HB4.out.size)
    have hrow : SvRow w5 v5 (la ++ lb) := SvRow.join own5 (HRA3.out.below hb5) (HRB3.out.below hb5)
    have HSM := Lib.hid (same07_no (A := lc) ⟨_, HRC3.out.below hb5⟩ hrow HLC.out)
    have HB5 := Lib.hid (HB3.out.trans (hb5.mono HB3.out.size))
    clear own5 grow5 hb5 hrow
    go_wp2_with fail
    refine HSM.out.mono ?_
    rintro e w6 ⟨rfl, hb6⟩
    have HB6 := Lib.hid (HB5.out.trans (hb6.mono HB5.out.size))
    have HAW := Lib.hid (awake07 _ (HMX.out _ HB6.out))
    clear hb6
    go_wp2_with fail
    refine HAW.out.mono ?_
    rintro e w7 ⟨rfl, hb7⟩
    have HB7 := Lib.hid (HB6.out.trans (hb7.mono HB6.out.size))
    clear hb7
    go_wp2
    go_ret
    exact ⟨rfl, HB7.out⟩

set_option maxHeartbeats 4000000 in
theorem lawJoins_any (a b : ByteArray) (w : World) (hm : MaxCell w) :
    Calls Tryz.prog 5 #[.string a, .string b] w fun e w' => e = .returned (.bool true) ∧ Below w.heap.size w w' := by
  by_cases hs : a.size ≤ 3000 ∧ b.size ≤ 3000
  · cases ra : readD a with
    | ok LA =>
      cases rb : readD b with
      | ok LB => exact joins_ok a b w hm hs.1 hs.2 ra rb
      | bad e l c => exact joins_bad a b w hm hs.1 hs.2 (fun ⟨_, L, h⟩ => by rw [rb] at h; cases h)
    | bad e l c => exact joins_bad a b w hm hs.1 hs.2 (fun ⟨⟨L, h⟩, _⟩ => by rw [ra] at h; cases h)
  · have HAW := Lib.hid (awake07 w hm)
    clear hm
    by_cases ha : (3000 : Int) < (a.size : Int)
    · clear hs
      go_enter Tryz.func5, Tryz.ntmps5
      go_wp2_with fail
      refine HAW.out.mono ?_
      rintro e w4 ⟨rfl, hb4⟩
      go_wp2
      go_ret
      exact ⟨rfl, hb4⟩
    · have hb : (3000 : Int) < (b.size : Int) := by omega
      clear hs
      go_enter Tryz.func5, Tryz.ntmps5
      go_wp2_with fail
      refine HAW.out.mono ?_
      rintro e w4 ⟨rfl, hb4⟩
      go_wp2
      go_ret
      exact ⟨rfl, hb4⟩

end Go.Proofs.YthlofmnmacpogaaGreatDoor

namespace Go.Proofs.YthlofmnmacpogaaGreatDoor.declJoins
open Go.ChangeShapes Go.WideShapes Go.ChangeAt Go.RowKit
open Go.ChangeMaps (open_string shut_string)

theorem own : ownKnob Tryz.prog.godebug = none := by kernel_rfl
theorem reads (os : Os) {H : Type} (enc : TypeId × Value → H) : ∃ places, DataW.whole enc Tryz.prog ((World.laidAll Tryz.prog os Rows.declJoinsRow.laid).forCall (fun _ _ => 0) ⟨#[], #[.string ⟨#[]⟩, .string ⟨#[]⟩], []⟩).memory Tryz.f5.params.toList Rows.declJoinsSpec.vars false #[Value.string ⟨#[]⟩, Value.string ⟨#[]⟩].toList 8 = some ([.lit (.string []), .lit (.string [])], [], places) :=
  ⟨[], by kernel_rfl⟩
theorem okIn (os : Os) : Input.okWideB Tryz.prog ((World.laidAll Tryz.prog os Rows.declJoinsRow.laid).forCall (fun _ _ => 0) ⟨#[], #[.string ⟨#[]⟩, .string ⟨#[]⟩], []⟩) 5 ⟨#[], #[.string ⟨#[]⟩, .string ⟨#[]⟩], []⟩ = true := by kernel_rfl
theorem laid_met (os : Os) : laidMetH Tryz.prog Rows.declJoinsRow.laid ((World.laidAll Tryz.prog os Rows.declJoinsRow.laid).forCall (fun _ _ => 0) ⟨#[], #[.string ⟨#[]⟩, .string ⟨#[]⟩], []⟩).memory := by
  rw [MakeChecks.laidMetH_plain _ _ _ (by kernel_rfl)]; exact laidMet_laidAll _ (by kernel_rfl) (by kernel_rfl)

set_option maxRecDepth 100000 in
theorem lifted (os : Os) (started : os.Started) (H : Type) (enc : TypeId × Value → H) (F : Stop.Interp) :
    ReturnsInHanded {} Tryz.checked os 5 .any ((OpenSpec.ofChange Rows.declJoinsSpec).preRow enc Tryz.prog Tryz.f5 Rows.declJoinsRow.domain false Rows.declJoinsRow.laid) (((OpenSpec.ofChange Rows.declJoinsSpec).at F).post enc Tryz.prog Tryz.f5 false true false false) := by
  obtain ⟨places, hx⟩ := reads os enc
  refine returnsInHanded_of_row (C := Tryz.checked) (s := OpenSpec.ofChange Rows.declJoinsSpec) own started (by kernel_rfl) Tryz.func5
    ⟨World.laidAll Tryz.prog os Rows.declJoinsRow.laid, fun _ _ => 0, ⟨#[], #[.string ⟨#[]⟩, .string ⟨#[]⟩], []⟩, World.laidAll_os _ _ _, World.shaped_of_ZipB (by kernel_rfl) (by kernel_rfl), (Input.okWide_of_okWideB (base := 0) (okIn os)).1, (Input.okWide_of_okWideB (okIn os)).2,
      OpenSpec.preRow_of_cond 8 hx (by kernel_rfl) (fun k hk => by cases hk) (by kernel_rfl) (laid_met os), by
        simp only [Assume.holds]
        exact ⟨by simp, by simp, fun _ => Modest.zero, by simp, by simp⟩⟩ ?_
  intro W base args ds gs before hval0 hW _ _ hsz _ hsh _
  obtain ⟨m, hm⟩ := Tryz.laysM144.s1_3 W hsh
  have hval : ∀ (j : Nat) t v, Tryz.f5.params[j]? = some t → args[j]? = some v → Value.okWide Tryz.prog W .any base t v := hval0
  have hW' := hW
  obtain ⟨p, q, hA0, hV, rfl, hfz, hnd⟩ := hW
  have hA : DataW.TrodAll enc Tryz.prog W 0 (fun _ => true) true Tryz.f5.params.toList args.toList ds p := hA0
  rw [Tryz.params5] at hA hval hsz
  obtain ⟨v0, vs0, d0, ds0, p0, q0, hargs, rfl, rfl, h0, r0⟩ := trodAll_cons hA
  obtain ⟨v1, vs1, d1, ds1, p1, q1, rfl, rfl, rfl, h1, r1⟩ := trodAll_cons r0
  obtain ⟨rfl, rfl, rfl⟩ := trodAll_nil r1
  obtain rfl : args = #[v0, v1] := by cases args; simp_all
  obtain ⟨rfl, rfl⟩ := trodVars_none hV
  obtain ⟨a0, rfl, rfl, rfl, w0⟩ := open_string Tryz.underlying9 (hval 0 9 v0 rfl rfl) h0
  obtain ⟨a1, rfl, rfl, rfl, w1⟩ := open_string Tryz.underlying9 (hval 1 9 v1 rfl rfl) h1
  clear hA0 hval0
  simp only [List.append_nil] at hW'
  refine (lawJoins_any a0 a1 W ⟨m, hm⟩).mono fun e W' ⟨he, hg⟩ => ?_
  subst he
  exact ⟨_, rfl, _, _, _, [], [], [], hW', (trodAll_cons_mk (shut_bool Tryz.underlying4 _) trodAll_mk0), (trodAll_cons_mk (shut_string Tryz.underlying9 w0) (trodAll_cons_mk (shut_string Tryz.underlying9 w1) trodAll_mk0)), rfl, hg.frame _, fun h => by cases h⟩

theorem said : Rows.DeclJoinsSaid :=
  OpenClaim.holds_of_cond 5 Tryz.f5 rfl rfl rfl rfl rfl rfl rfl ⟨rfl, rfl, rfl, rfl, rfl⟩ rfl rfl rfl rfl rfl (by kernel_rfl) Tryz.func5 (by kernel_rfl)
    (of_decide_eq_true (by kernel_rfl)) (by unfold Func.isWrapper; first | (rw [if_pos (by decide +kernel)]; kernel_rfl) | (rw [if_neg (by decide +kernel)]; exact ⟨rfl, rfl⟩))
    (fun os started H enc _ F => by rw [OpenClaim.pre_eq_preRow]; exact lifted os started H enc F)

theorem plain (f : FuncId) (fn : Func) (hf : Tryz.pinned.checked.prog.funcNamed "warder/warderlaw07.DeclJoins" = some f) (hfn : Tryz.pinned.checked.prog.funcs[f]? = some fn) :
    false = Tryz.pinned.checked.prog.looks [] ∧ ∀ (j : Nat) t, fn.params[j]? = some t → Tryz.pinned.checked.prog.wantsStandIn t = false := by
  obtain rfl : f = 5 := Option.some.inj ((show Tryz.prog.funcNamed "warder/warderlaw07.DeclJoins" = some 5 by kernel_rfl).symm.trans hf) |>.symm
  obtain rfl : fn = Tryz.f5 := (Option.some.inj (Tryz.func5.symm.trans hfn)).symm
  refine ⟨by kernel_rfl, fun j t ht => ?_⟩
  rw [Tryz.params5] at ht
  obtain rfl : t = 9 := by simpa using Array.mem_of_getElem? ht
  exact (show Tryz.prog.wantsStandIn 9 = false by kernel_rfl)

/-- THE CARD -/
theorem proved : Rows.DeclJoinsCardSaid :=
  Claim7.holds_tied_plain_at .later [] _ _ _ _ said (fun _ h => by cases h) (by kernel_rfl) (fun _ h => by cases h) declJoins_row_tie rfl ⟨rfl, rfl⟩ (by kernel_rfl) rfl plain (by kernel_rfl)
end Go.Proofs.YthlofmnmacpogaaGreatDoor.declJoins
