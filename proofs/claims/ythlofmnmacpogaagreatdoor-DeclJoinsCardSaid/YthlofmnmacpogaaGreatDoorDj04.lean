/- Contract of warderref04.Same, for two lists that are the same but for places. Contract of warderref07.Like, for two statements that are the same but for places. Contract of warderref07.Same, for two rows of statements that are the same but for places (printed by gen_joinsame.py). -/
import Derived.Test.YthlofmnmacpogaaGreatDoorDj03
import Derived.Test.YthlofmnmacpogaaGreatDoorDj01
import Derived.BigQuiet
import Derived.Test.YthlofmnmacpogaaGreatDoorDj02
import Derived.Deep.RegionHeld3
import Derived.Deep.DeepCutAuto

namespace Go.Proofs.YthlofmnmacpogaaGreatDoor
open Go.RowKit

theorem bare_eq {x y : It} (h : bare x = bare y) : x.op = y.op ∧ x.ln = y.ln ∧ x.lnum = y.lnum ∧ x.rn = y.rn ∧ x.rnum = y.rnum ∧ x.name = y.name ∧ x.user = y.user := by
  simp only [bare, It.mk.injEq] at h
  exact ⟨h.1, h.2.1, h.2.2.1, h.2.2.2.1, h.2.2.2.2.1, h.2.2.2.2.2.1, h.2.2.2.2.2.2.1⟩

set_option maxRecDepth 100000 in
set_option maxHeartbeats 4000000 in
theorem same4_any {w : World} {u v : Value} {S T : List It} (ha : ItRow w u S) (hb : ItRow w v T) (hST : S.map bare = T.map bare) :
    Calls Tryz.prog 36 #[u, v] w fun e w' => e = .returned (.bool true) ∧ ∃ n, w' = w.drewN n := by
  have hl : S.length = T.length := by simpa using congrArg List.length hST
  obtain ⟨ad, cap, hu⟩ := ha.len
  obtain ⟨ad2, cap2, hv⟩ := hb.len
  rw [← hl] at hv
  have hT : S.length ≤ 9223372036854775807 := by obtain ⟨_, h⟩ := ha; exact owns_max h
  have HA := Lib.hid ha
  have HB := Lib.hid hb
  have HST := Lib.hid hST
  have HL := Lib.hid hl
  subst hu
  subst hv
  clear ha hb hl hST
  go_enter Tryz.func36, Tryz.ntmps36
  go_wp2
  go_loopw [5] (fun i wr => ∃ k n : Nat, i = .int .i64 k ∧ k ≤ S.length ∧ wr = w.drewN n) (fun i _ => S.length - (intOf i).toNat)
  case atStart => exact ⟨0, 0, by go_num, by omega, rfl⟩
  case round =>
    obtain ⟨k, n, rfl, hk, rfl⟩ := hrel
    by_cases hlt : k < S.length
    · obtain ⟨x, hx⟩ : ∃ x, S[k]? = some x := ⟨_, List.getElem?_eq_getElem hlt⟩
      obtain ⟨y, hy⟩ : ∃ y, T[k]? = some y := ⟨_, List.getElem?_eq_getElem (by rw [← HL.out]; exact hlt)⟩
      have hxy : bare x = bare y := by
        have h1 : (S.map bare)[k]? = some (bare x) := by rw [List.getElem?_map, hx]; rfl
        have h2 : (T.map bare)[k]? = some (bare y) := by rw [List.getElem?_map, hy]; rfl
        rw [HST.out, h2] at h1
        exact (Option.some.inj h1).symm
      obtain ⟨e1, e2, e3, e4, e5, e6, e7⟩ := bare_eq hxy
      obtain ⟨g, c1, hg, hgl, a0, a1, a2, a3, a4, a5, a6, a7, a8⟩ := HA.out.at hx
      obtain ⟨g2, c2, hg2, hgl2, b0, b1, b2, b3, b4, b5, b6, b7, b8⟩ := HB.out.at hy
      rw [← HL.out] at hg2
      simp only [Value.slice.injEq, true_and] at hg hg2
      obtain ⟨rfl, rfl⟩ := hg
      obtain ⟨rfl, rfl⟩ := hg2
      rw [← e1] at b0
      rw [← e2] at b1
      rw [← e3] at b2
      rw [← e4] at b3
      rw [← e5] at b4
      rw [← e6] at b5
      rw [← e7] at b6
      have hkz : (k : Int) < (S.length : Int) := by omega
      clear hx hy hxy e1 e2 e3 e4 e5 e6 e7
      go_wp2
      go_quiet (fail)
      go_wp2
      go_roundw
      case rel => exact ⟨k + 1, _, by go_num, by omega, rfl⟩
      case measure => simp [intOf]; omega
    · have hkz : (S.length : Int) ≤ (k : Int) := by omega
      go_wp2
      go_ret
      exact ⟨rfl, n, rfl⟩

set_option maxHeartbeats 4000000 in
theorem exact_big {w : World} {u v : Value} {T : List It} (ha : ItRow w u T) (hb : ItRow w v T) :
    Calls Tryz.prog 16 #[u, v] w fun e w' => e = .returned (.bool true) ∧ ∃ n, w' = w.drewN n := by
  obtain ⟨ad, cap, hu⟩ := ha.len
  obtain ⟨ad2, cap2, hv⟩ := hb.len
  have hT : T.length ≤ 9223372036854775807 := by obtain ⟨_, h⟩ := ha; exact owns_max h
  have HA := Lib.hid ha
  have HB := Lib.hid hb
  subst hu
  subst hv
  clear ha hb
  go_enter Tryz.func16, Tryz.ntmps16
  go_wp2
  go_loopw [5] (fun i wr => ∃ k n : Nat, i = .int .i64 k ∧ k ≤ T.length ∧ wr = w.drewN n) (fun i _ => T.length - (intOf i).toNat)
  case atStart => exact ⟨0, 0, by go_num, by omega, rfl⟩
  case round =>
    obtain ⟨k, n, rfl, hk, rfl⟩ := hrel
    by_cases hlt : k < T.length
    · obtain ⟨x, hx⟩ : ∃ x, T[k]? = some x := ⟨_, List.getElem?_eq_getElem hlt⟩
      obtain ⟨g, c1, hg, hgl, a0, a1, a2, a3, a4, a5, a6, a7, a8⟩ := HA.out.at hx
      obtain ⟨g2, c2, hg2, hgl2, b0, b1, b2, b3, b4, b5, b6, b7, b8⟩ := HB.out.at hx
      simp only [Value.slice.injEq, true_and] at hg hg2
      obtain ⟨rfl, rfl⟩ := hg
      obtain ⟨rfl, rfl⟩ := hg2
      have hkz : (k : Int) < (T.length : Int) := by omega
      clear hx
      go_wp2
      go_quiet (fail)
      go_wp2
      go_roundw
      case rel => exact ⟨k + 1, _, by go_num, by omega, rfl⟩
      case measure => simp [intOf]; omega
    · have hkz : (T.length : Int) ≤ (k : Int) := by omega
      go_wp2
      go_ret
      exact ⟨rfl, n, rfl⟩

end Go.Proofs.YthlofmnmacpogaaGreatDoor

namespace Go.Proofs.YthlofmnmacpogaaGreatDoor
open Go.RowKit

abbrev svV (x : Sv) : Value := .agg #[.int .i64 x.1.kind, .string x.1.name, .int .i64 x.1.line, .int .i64 x.1.col, .int .i64 x.1.init, x.2.1, .string x.1.role, .string x.1.stage, .string x.1.event, .int .i64 x.1.times, x.2.2, .bool x.1.final]
theorem bareS_eq {x y : St} (h : bareS x = bareS y) : x.kind = y.kind ∧ x.name = y.name ∧ x.init = y.init ∧ x.names = y.names ∧ x.role = y.role ∧ x.stage = y.stage ∧ x.event = y.event ∧ x.times = y.times ∧ x.ifs.map bare = y.ifs.map bare ∧ x.final = y.final := by
  simp only [bareS, St.mk.injEq] at h
  exact ⟨h.1, h.2.1, h.2.2.2.2.1, h.2.2.2.2.2.1, h.2.2.2.2.2.2.1, h.2.2.2.2.2.2.2.1, h.2.2.2.2.2.2.2.2.1, h.2.2.2.2.2.2.2.2.2.1, h.2.2.2.2.2.2.2.2.2.2.1, h.2.2.2.2.2.2.2.2.2.2.2⟩

set_option maxRecDepth 100000 in
set_option maxHeartbeats 4000000 in
theorem like_cells {w : World} {k l c l2 c2 ini tm : Int} {nm ro st ev : ByteArray} {fi : Bool} {v1 v2 u1 u2 : Value} {ns : List ByteArray} {S T : List It} (hn : NmRow w v1 ns) (hm : NmRow w u1 ns) (hi : ItRow w v2 S) (hj : ItRow w u2 T) (hST : S.map bare = T.map bare) :
    Calls Tryz.prog 15 #[.agg #[.int .i64 k, .string nm, .int .i64 l, .int .i64 c, .int .i64 ini, v1, .string ro, .string st, .string ev, .int .i64 tm, v2, .bool fi], .agg #[.int .i64 k, .string nm, .int .i64 l2, .int .i64 c2, .int .i64 ini, u1, .string ro, .string st, .string ev, .int .i64 tm, u2, .bool fi]] w fun e w' => e = .returned (.bool true) ∧ Below w.heap.size w w' := by
  have HB := (((Below.refl _ w).alloc (Nat.le_refl _) (.cells #[.int .i64 k, .string nm, .int .i64 l, .int .i64 c, .int .i64 ini, v1, .string ro, .string st, .string ev, .int .i64 tm, v2, .bool fi] 37)).alloc (by simp) (.cells #[.int .i64 k, .string nm, .int .i64 l2, .int .i64 c2, .int .i64 ini, u1, .string ro, .string st, .string ev, .int .i64 tm, u2, .bool fi] 37))
  have h1 : StB ((w.alloc (.cells #[.int .i64 k, .string nm, .int .i64 l, .int .i64 c, .int .i64 ini, v1, .string ro, .string st, .string ev, .int .i64 tm, v2, .bool fi] 37)).alloc (.cells #[.int .i64 k, .string nm, .int .i64 l2, .int .i64 c2, .int .i64 ini, u1, .string ro, .string st, .string ev, .int .i64 tm, u2, .bool fi] 37)) w.heap.size ⟨k, nm, l, c, ini, [], ro, st, ev, tm, [], fi⟩ v1 v2 := StB.alloc (x := ⟨k, nm, l, c, ini, [], ro, st, ev, tm, [], fi⟩) (heap_alloc_new w _) _
  have h2 : StB ((w.alloc (.cells #[.int .i64 k, .string nm, .int .i64 l, .int .i64 c, .int .i64 ini, v1, .string ro, .string st, .string ev, .int .i64 tm, v2, .bool fi] 37)).alloc (.cells #[.int .i64 k, .string nm, .int .i64 l2, .int .i64 c2, .int .i64 ini, u1, .string ro, .string st, .string ev, .int .i64 tm, u2, .bool fi] 37)) (w.heap.size + 1) ⟨k, nm, l2, c2, ini, [], ro, st, ev, tm, [], fi⟩ u1 u2 := heap_at_size _ _ _ (by simp)
  have hn2 := hn.keep HB
  have hm2 := hm.keep HB
  have hi2 := hi.keep HB
  have hj2 := hj.keep HB
  obtain ⟨a0, a1, a2, a3, a4, a5, a6, a7, a8, a9, a10, a11⟩ := h1.facts
  obtain ⟨b0, b1, b2, b3, b4, b5, b6, b7, b8, b9, b10, b11⟩ := h2.facts
  dsimp only at a0 a1 a2 a3 a4 a5 a6 a7 a8 a9 a10 a11 b0 b1 b2 b3 b4 b5 b6 b7 b8 b9 b10 b11
  have HC1 := Lib.hid (sameNames_any hn2 hm2)
  have HC2 := Lib.hid (fun n => same4_any (w := ((w.alloc (.cells #[.int .i64 k, .string nm, .int .i64 l, .int .i64 c, .int .i64 ini, v1, .string ro, .string st, .string ev, .int .i64 tm, v2, .bool fi] 37)).alloc (.cells #[.int .i64 k, .string nm, .int .i64 l2, .int .i64 c2, .int .i64 ini, u1, .string ro, .string st, .string ev, .int .i64 tm, u2, .bool fi] 37)).drewN n) (hi2.drewN n) (hj2.drewN n) hST)
  have HB2 := Lib.hid HB
  clear hn hm hi hj hST HB h1 h2 hn2 hm2 hi2 hj2
  go_enter Tryz.func15, Tryz.ntmps15
  go_wp2_with fail
  refine HC1.out.mono ?_
  rintro e w1 ⟨rfl, n, rfl⟩
  go_wp2_with fail
  refine (HC2.out n).mono ?_
  rintro e w1 ⟨rfl, m, rfl⟩
  go_wp2
  go_ret
  exact ⟨rfl, below_drewN HB2.out _⟩

end Go.Proofs.YthlofmnmacpogaaGreatDoor

namespace Go.Proofs.YthlofmnmacpogaaGreatDoor
open Go.RowKit

set_option maxRecDepth 100000 in
set_option maxHeartbeats 4000000 in
theorem same07_no {w : World} {u v : Value} {A B : List Sv} (ha : SvRow w u A) (hb : SvRow w v B) (hAB : (A.map (·.1)).map bareS = (B.map (·.1)).map bareS) :
    Calls Tryz.prog 10 #[u, v, .bool false] w fun e w' => e = .returned (.bool true) ∧ Below w.heap.size w w' := by
  have hl : A.length = B.length := by simpa using congrArg List.length hAB
  obtain ⟨ad, cap, hu⟩ := ha.len
  obtain ⟨ad2, cap2, hv⟩ := hb.len
  rw [← hl] at hv
  have hA : A.length ≤ 9223372036854775807 := by obtain ⟨_, h⟩ := ha; exact owns_max h.row
  have HA := Lib.hid ha
  have HB := Lib.hid hb
  have HAB := Lib.hid hAB
  have HL := Lib.hid hl
  subst hu
  subst hv
  clear ha hb hl hAB
  go_enter Tryz.func10, Tryz.ntmps10
  go_wp2
  go_loopw [7] (fun i wr => ∃ k : Nat, i = .int .i64 k ∧ k ≤ A.length ∧ Hid (Below w.heap.size w wr)) (fun i _ => A.length - (intOf i).toNat)
  case atStart => exact ⟨0, by go_num, by omega, Below.refl _ _⟩
  case round =>
    obtain ⟨k, rfl, hk, HBR⟩ := hrel
    by_cases hlt : k < A.length
    · obtain ⟨x, hx⟩ : ∃ x, A[k]? = some x := ⟨_, List.getElem?_eq_getElem hlt⟩
      obtain ⟨y, hy⟩ : ∃ y, B[k]? = some y := ⟨_, List.getElem?_eq_getElem (by rw [← HL.out]; exact hlt)⟩
      have hxy : bareS x.1 = bareS y.1 := by
        have h1 : ((A.map (·.1)).map bareS)[k]? = some (bareS x.1) := by rw [List.getElem?_map, List.getElem?_map, hx]; rfl
        have h2 : ((B.map (·.1)).map bareS)[k]? = some (bareS y.1) := by rw [List.getElem?_map, List.getElem?_map, hy]; rfl
        rw [HAB.out, h2] at h1
        exact (Option.some.inj h1).symm
      obtain ⟨g, c1, hg, hgl, -⟩ := (HA.out.keep HBR.out).at hx
      obtain ⟨g2, c2, hg2, hgl2, -⟩ := (HB.out.keep HBR.out).at hy
      rw [← HL.out] at hg2
      simp only [Value.slice.injEq, true_and] at hg hg2
      obtain ⟨rfl, rfl⟩ := hg
      obtain ⟨rfl, rfl⟩ := hg2
      have HXX : Hid (∀ W, Below wr.heap.size wr W → (W.cell? ⟨g, k * 12, none⟩ = some (.int .i64 x.1.kind) ∧ W.cell? ⟨g, k * 12 + 1, none⟩ = some (.string x.1.name) ∧ W.cell? ⟨g, k * 12 + 2, none⟩ = some (.int .i64 x.1.line) ∧ W.cell? ⟨g, k * 12 + 3, none⟩ = some (.int .i64 x.1.col) ∧ W.cell? ⟨g, k * 12 + 4, none⟩ = some (.int .i64 x.1.init) ∧ W.cell? ⟨g, k * 12 + 5, none⟩ = some x.2.1 ∧ W.cell? ⟨g, k * 12 + 6, none⟩ = some (.string x.1.role) ∧ W.cell? ⟨g, k * 12 + 7, none⟩ = some (.string x.1.stage) ∧ W.cell? ⟨g, k * 12 + 8, none⟩ = some (.string x.1.event) ∧ W.cell? ⟨g, k * 12 + 9, none⟩ = some (.int .i64 x.1.times) ∧ W.cell? ⟨g, k * 12 + 10, none⟩ = some x.2.2 ∧ W.cell? ⟨g, k * 12 + 11, none⟩ = some (.bool x.1.final) ∧ W.cell? ⟨g2, k * 12, none⟩ = some (.int .i64 y.1.kind) ∧ W.cell? ⟨g2, k * 12 + 1, none⟩ = some (.string y.1.name) ∧ W.cell? ⟨g2, k * 12 + 2, none⟩ = some (.int .i64 y.1.line) ∧ W.cell? ⟨g2, k * 12 + 3, none⟩ = some (.int .i64 y.1.col) ∧ W.cell? ⟨g2, k * 12 + 4, none⟩ = some (.int .i64 y.1.init) ∧ W.cell? ⟨g2, k * 12 + 5, none⟩ = some y.2.1 ∧ W.cell? ⟨g2, k * 12 + 6, none⟩ = some (.string y.1.role) ∧ W.cell? ⟨g2, k * 12 + 7, none⟩ = some (.string y.1.stage) ∧ W.cell? ⟨g2, k * 12 + 8, none⟩ = some (.string y.1.event) ∧ W.cell? ⟨g2, k * 12 + 9, none⟩ = some (.int .i64 y.1.times) ∧ W.cell? ⟨g2, k * 12 + 10, none⟩ = some y.2.2 ∧ W.cell? ⟨g2, k * 12 + 11, none⟩ = some (.bool y.1.final)) ∧ NmRow W x.2.1 x.1.names ∧ ItRow W x.2.2 x.1.ifs ∧ NmRow W y.2.1 y.1.names ∧ ItRow W y.2.2 y.1.ifs) := by
        intro W hW
        have hBW := HBR.out.trans (hW.mono HBR.out.size)
        obtain ⟨g', c', q, _, a0, a1, a2, a3, a4, a5, a6, a7, a8, a9, a10, a11, an, ai⟩ := (HA.out.keep hBW).at hx
        obtain ⟨g2', c2', q2, _, b0, b1, b2, b3, b4, b5, b6, b7, b8, b9, b10, b11, bn, bi⟩ := (HB.out.keep hBW).at hy
        simp only [Value.slice.injEq, Option.some.injEq, Addr.mk.injEq, true_and, and_true] at q q2
        obtain ⟨rfl, rfl⟩ := q
        obtain ⟨rfl, _⟩ := q2
        exact ⟨⟨a0, a1, a2, a3, a4, a5, a6, a7, a8, a9, a10, a11, b0, b1, b2, b3, b4, b5, b6, b7, b8, b9, b10, b11⟩, an, ai, bn, bi⟩
      have HX : Hid (∀ W, Below wr.heap.size wr W → (W.cell? ⟨g, k * 12, none⟩ = some (.int .i64 x.1.kind) ∧ W.cell? ⟨g, k * 12 + 1, none⟩ = some (.string x.1.name) ∧ W.cell? ⟨g, k * 12 + 2, none⟩ = some (.int .i64 x.1.line) ∧ W.cell? ⟨g, k * 12 + 3, none⟩ = some (.int .i64 x.1.col) ∧ W.cell? ⟨g, k * 12 + 4, none⟩ = some (.int .i64 x.1.init) ∧ W.cell? ⟨g, k * 12 + 5, none⟩ = some x.2.1 ∧ W.cell? ⟨g, k * 12 + 6, none⟩ = some (.string x.1.role) ∧ W.cell? ⟨g, k * 12 + 7, none⟩ = some (.string x.1.stage) ∧ W.cell? ⟨g, k * 12 + 8, none⟩ = some (.string x.1.event) ∧ W.cell? ⟨g, k * 12 + 9, none⟩ = some (.int .i64 x.1.times) ∧ W.cell? ⟨g, k * 12 + 10, none⟩ = some x.2.2 ∧ W.cell? ⟨g, k * 12 + 11, none⟩ = some (.bool x.1.final) ∧ W.cell? ⟨g2, k * 12, none⟩ = some (.int .i64 y.1.kind) ∧ W.cell? ⟨g2, k * 12 + 1, none⟩ = some (.string y.1.name) ∧ W.cell? ⟨g2, k * 12 + 2, none⟩ = some (.int .i64 y.1.line) ∧ W.cell? ⟨g2, k * 12 + 3, none⟩ = some (.int .i64 y.1.col) ∧ W.cell? ⟨g2, k * 12 + 4, none⟩ = some (.int .i64 y.1.init) ∧ W.cell? ⟨g2, k * 12 + 5, none⟩ = some y.2.1 ∧ W.cell? ⟨g2, k * 12 + 6, none⟩ = some (.string y.1.role) ∧ W.cell? ⟨g2, k * 12 + 7, none⟩ = some (.string y.1.stage) ∧ W.cell? ⟨g2, k * 12 + 8, none⟩ = some (.string y.1.event) ∧ W.cell? ⟨g2, k * 12 + 9, none⟩ = some (.int .i64 y.1.times) ∧ W.cell? ⟨g2, k * 12 + 10, none⟩ = some y.2.2 ∧ W.cell? ⟨g2, k * 12 + 11, none⟩ = some (.bool y.1.final))) := fun W hW => (HXX.out W hW).1
      have HLK : Hid (∀ W, Below wr.heap.size wr W → Calls Tryz.prog 15 #[svV x, svV y] W fun e w' => e = .returned (.bool true) ∧ Below W.heap.size W w') := by
        intro W hW
        obtain ⟨_, an, ai, bn, bi⟩ := HXX.out W hW
        obtain ⟨e1, e2, e3, e4, e5, e6, e7, e8, e9, e10⟩ := bareS_eq hxy
        unfold svV
        rw [← e1, ← e2, ← e3, ← e5, ← e6, ← e7, ← e8, ← e10]
        rw [← e4] at bn
        exact like_cells an bn ai bi e9

      have hkz : (k : Int) < (A.length : Int) := by omega
      clear HXX hx hy hxy
      have hbz : Below wr.heap.size wr wr := Below.refl _ _
      go_wp2_with fail
      go_cut [58] (fun c wx => c = .bool false ∧ Hid (Below wr.heap.size wr wx))
      case first =>
        obtain ⟨a0, a1, a2, a3, a4, a5, a6, a7, a8, a9, a10, a11, b0, b1, b2, b3, b4, b5, b6, b7, b8, b9, b10, b11⟩ := HX.out wr hbz
        have hbz : Below wr.heap.size wr wr.drew := (Below.refl _ _).drew
        refine wp_region_held_drew (S := (fun w' => w'.cell? ⟨g, k * 12, none⟩ = some (.int .i64 x.1.kind) ∧ w'.cell? ⟨g, k * 12 + 1, none⟩ = some (.string x.1.name) ∧ w'.cell? ⟨g, k * 12 + 2, none⟩ = some (.int .i64 x.1.line) ∧ w'.cell? ⟨g, k * 12 + 3, none⟩ = some (.int .i64 x.1.col) ∧ w'.cell? ⟨g, k * 12 + 4, none⟩ = some (.int .i64 x.1.init) ∧ w'.cell? ⟨g, k * 12 + 5, none⟩ = some x.2.1 ∧ w'.cell? ⟨g, k * 12 + 6, none⟩ = some (.string x.1.role) ∧ w'.cell? ⟨g, k * 12 + 7, none⟩ = some (.string x.1.stage) ∧ w'.cell? ⟨g, k * 12 + 8, none⟩ = some (.string x.1.event) ∧ w'.cell? ⟨g, k * 12 + 9, none⟩ = some (.int .i64 x.1.times) ∧ w'.cell? ⟨g, k * 12 + 10, none⟩ = some x.2.2 ∧ w'.cell? ⟨g, k * 12 + 11, none⟩ = some (.bool x.1.final) ∧ w'.cell? ⟨g2, k * 12, none⟩ = some (.int .i64 y.1.kind) ∧ w'.cell? ⟨g2, k * 12 + 1, none⟩ = some (.string y.1.name) ∧ w'.cell? ⟨g2, k * 12 + 2, none⟩ = some (.int .i64 y.1.line) ∧ w'.cell? ⟨g2, k * 12 + 3, none⟩ = some (.int .i64 y.1.col) ∧ w'.cell? ⟨g2, k * 12 + 4, none⟩ = some (.int .i64 y.1.init) ∧ w'.cell? ⟨g2, k * 12 + 5, none⟩ = some y.2.1 ∧ w'.cell? ⟨g2, k * 12 + 6, none⟩ = some (.string y.1.role) ∧ w'.cell? ⟨g2, k * 12 + 7, none⟩ = some (.string y.1.stage) ∧ w'.cell? ⟨g2, k * 12 + 8, none⟩ = some (.string y.1.event) ∧ w'.cell? ⟨g2, k * 12 + 9, none⟩ = some (.int .i64 y.1.times) ∧ w'.cell? ⟨g2, k * 12 + 10, none⟩ = some y.2.2 ∧ w'.cell? ⟨g2, k * 12 + 11, none⟩ = some (.bool y.1.final))) (by kernel_rfl) ?_ (fun hHeld => ?_)
        · exact HX.out _ hbz
        refine wpAnyH_take (i := 0) (v := ?v0) rfl (by kernel_rfl) (by kernel_rfl) (by kernel_rfl) (fun _ _ _ h => h) (Or.inl ⟨by rfl, ?y0⟩) (by assumption) ?r0
        case y0 => ((intro w hSw; (try dsimp only at hSw); go_simp) <;> (try with_reducible rfl))
        (try go_simp)
        refine wpAnyH_take (i := 1) (v := ?v1) rfl (by kernel_rfl) (by kernel_rfl) (by kernel_rfl) (fun _ _ _ h => h) (Or.inl ⟨by rfl, ?y1⟩) (by assumption) ?r1
        case y1 => ((intro w hSw; (try dsimp only at hSw); go_simp) <;> (try with_reducible rfl))
        (try go_simp)
        refine wpAnyH_take (i := 2) (v := ?v2) rfl (by kernel_rfl) (by kernel_rfl) (by kernel_rfl) (fun _ _ _ h => h) (Or.inl ⟨by rfl, ?y2⟩) (by assumption) ?r2
        case y2 => ((intro w hSw; (try dsimp only at hSw); go_simp) <;> (try with_reducible rfl))
        (try go_simp)
        refine wpAnyH_take (i := 3) (v := ?v3) rfl (by kernel_rfl) (by kernel_rfl) (by kernel_rfl) (fun _ _ _ h => h) (Or.inl ⟨by rfl, ?y3⟩) (by assumption) ?r3
        case y3 => ((intro w hSw; (try dsimp only at hSw); go_simp) <;> (try with_reducible rfl))
        (try go_simp)
        refine wpAnyH_take (i := 4) (v := ?v4) rfl (by kernel_rfl) (by kernel_rfl) (by kernel_rfl) (fun _ _ _ h => h) (Or.inl ⟨by rfl, ?y4⟩) (by assumption) ?r4
        case y4 => ((intro w hSw; (try dsimp only at hSw); go_simp) <;> (try with_reducible rfl))
        (try go_simp)
        refine wpAnyH_take (i := 5) (v := ?v5) rfl (by kernel_rfl) (by kernel_rfl) (by kernel_rfl) (fun _ _ _ h => h) (Or.inl ⟨by rfl, ?y5⟩) (by assumption) ?r5
        case y5 => ((intro w hSw; (try dsimp only at hSw); go_simp) <;> (try with_reducible rfl))
        (try go_simp)
        refine wpAnyH_take (i := 6) (v := ?v6) rfl (by kernel_rfl) (by kernel_rfl) (by kernel_rfl) (fun _ _ _ h => h) (Or.inl ⟨by rfl, ?y6⟩) (by assumption) ?r6
        case y6 => ((intro w hSw; (try dsimp only at hSw); go_simp) <;> (try with_reducible rfl))
        (try go_simp)
        refine wpAnyH_take (i := 7) (v := ?v7) rfl (by kernel_rfl) (by kernel_rfl) (by kernel_rfl) (fun _ _ _ h => h) (Or.inl ⟨by rfl, ?y7⟩) (by assumption) ?r7
        case y7 => ((intro w hSw; (try dsimp only at hSw); go_simp) <;> (try with_reducible rfl))
        (try go_simp)
        refine wpAnyH_ready (rs := [8]) (by kernel_rfl) (by simp) ?_
        refine AllReadyH.cons rfl (fun K hK => ?_) AllReadyH.nil
        go_simp
        refine (HLK.out _ hbz).mono ?_
        rintro e w4 ⟨rfl, hbs⟩
        have hbz := hbz.trans (hbs.mono hbz.size)
        clear hbs
        refine hK.out _ _ ?_ (fun hHeld => ?_)
        · exact HX.out _ hbz
        clear hK K
        (try go_simp)
        refine wpAnyH_take (i := 9) (v := ?v9) rfl (by kernel_rfl) (by kernel_rfl) (by kernel_rfl) (fun _ _ _ h => h) (Or.inl ⟨by rfl, ?y9⟩) (by assumption) ?r9
        case y9 => ((intro w hSw; (try dsimp only at hSw); go_simp) <;> (try with_reducible rfl))
        (try go_simp)
        refine wpAnyH_take (i := 10) (v := ?v10) rfl (by kernel_rfl) (by kernel_rfl) (by kernel_rfl) (fun _ _ _ h => h) (Or.inl ⟨by rfl, ?y10⟩) (by assumption) ?r10
        case y10 => ((intro w hSw; (try dsimp only at hSw); go_simp) <;> (try with_reducible rfl))
        (try go_simp)
        refine wpAnyH_take (i := 11) (v := ?v11) rfl (by kernel_rfl) (by kernel_rfl) (by kernel_rfl) (fun _ _ _ h => h) (Or.inl ⟨by rfl, ?y11⟩) (by assumption) ?r11
        case y11 => ((intro w hSw; (try dsimp only at hSw); go_simp) <;> (try with_reducible rfl))
        (try go_simp)
        refine wpAnyH_take (i := 12) (v := ?v12) rfl (by kernel_rfl) (by kernel_rfl) (by kernel_rfl) (fun _ _ _ h => h) (Or.inl ⟨by rfl, ?y12⟩) (by assumption) ?r12
        case y12 => ((intro w hSw; (try dsimp only at hSw); go_simp) <;> (try with_reducible rfl))
        (try go_simp)
        refine wpAnyH_take (i := 13) (v := undef) rfl (by kernel_rfl) (by kernel_rfl) (by kernel_rfl) (fun _ _ _ h => h) (Or.inr ⟨by rfl, rfl⟩) (by assumption) ?_
        (try go_simp)
        refine wpAnyH_take (i := 14) (v := undef) rfl (by kernel_rfl) (by kernel_rfl) (by kernel_rfl) (fun _ _ _ h => h) (Or.inr ⟨by rfl, rfl⟩) (by assumption) ?_
        (try go_simp)
        refine wpAnyH_take (i := 15) (v := undef) rfl (by kernel_rfl) (by kernel_rfl) (by kernel_rfl) (fun _ _ _ h => h) (Or.inr ⟨by rfl, rfl⟩) (by assumption) ?_
        (try go_simp)
        refine wpAnyH_take (i := 16) (v := undef) rfl (by kernel_rfl) (by kernel_rfl) (by kernel_rfl) (fun _ _ _ h => h) (Or.inr ⟨by rfl, rfl⟩) (by assumption) ?_
        (try go_simp)
        refine wpAnyH_take (i := 17) (v := undef) rfl (by kernel_rfl) (by kernel_rfl) (by kernel_rfl) (fun _ _ _ h => h) (Or.inr ⟨by rfl, rfl⟩) (by assumption) ?_
        (try go_simp)
        refine wpAnyH_take (i := 18) (v := undef) rfl (by kernel_rfl) (by kernel_rfl) (by kernel_rfl) (fun _ _ _ h => h) (Or.inr ⟨by rfl, rfl⟩) (by assumption) ?_
        (try go_simp)
        refine wpAnyH_take (i := 19) (v := undef) rfl (by kernel_rfl) (by kernel_rfl) (by kernel_rfl) (fun _ _ _ h => h) (Or.inr ⟨by rfl, rfl⟩) (by assumption) ?_
        (try go_simp)
        refine wpAnyH_take (i := 20) (v := undef) rfl (by kernel_rfl) (by kernel_rfl) (by kernel_rfl) (fun _ _ _ h => h) (Or.inr ⟨by rfl, rfl⟩) (by assumption) ?_
        (try go_simp)
        refine wpAnyH_take (i := 21) (v := undef) rfl (by kernel_rfl) (by kernel_rfl) (by kernel_rfl) (fun _ _ _ h => h) (Or.inr ⟨by rfl, rfl⟩) (by assumption) ?_
        (try go_simp)
        refine wpAnyH_take (i := 22) (v := undef) rfl (by kernel_rfl) (by kernel_rfl) (by kernel_rfl) (fun _ _ _ h => h) (Or.inr ⟨by rfl, rfl⟩) (by assumption) ?_
        (try go_simp)
        refine wpAnyH_take (i := 23) (v := undef) rfl (by kernel_rfl) (by kernel_rfl) (by kernel_rfl) (fun _ _ _ h => h) (Or.inr ⟨by rfl, rfl⟩) (by assumption) ?_
        (try go_simp)
        refine wpAnyH_take (i := 24) (v := undef) rfl (by kernel_rfl) (by kernel_rfl) (by kernel_rfl) (fun _ _ _ h => h) (Or.inr ⟨by rfl, rfl⟩) (by assumption) ?_
        (try go_simp)
        refine wpAnyH_take (i := 25) (v := undef) rfl (by kernel_rfl) (by kernel_rfl) (by kernel_rfl) (fun _ _ _ h => h) (Or.inr ⟨by rfl, rfl⟩) (by assumption) ?_
        (try go_simp)
        refine wpAnyH_take (i := 26) (v := undef) rfl (by kernel_rfl) (by kernel_rfl) (by kernel_rfl) (fun _ _ _ h => h) (Or.inr ⟨by rfl, rfl⟩) (by assumption) ?_
        (try go_simp)
        refine wpAnyH_take (i := 27) (v := undef) rfl (by kernel_rfl) (by kernel_rfl) (by kernel_rfl) (fun _ _ _ h => h) (Or.inr ⟨by rfl, rfl⟩) (by assumption) ?_
        (try go_simp)
        refine wpAnyH_take (i := 28) (v := undef) rfl (by kernel_rfl) (by kernel_rfl) (by kernel_rfl) (fun _ _ _ h => h) (Or.inr ⟨by rfl, rfl⟩) (by assumption) ?_
        (try go_simp)
        refine wpAnyH_take (i := 29) (v := undef) rfl (by kernel_rfl) (by kernel_rfl) (by kernel_rfl) (fun _ _ _ h => h) (Or.inr ⟨by rfl, rfl⟩) (by assumption) ?_
        (try go_simp)
        refine wpAnyH_take (i := 30) (v := undef) rfl (by kernel_rfl) (by kernel_rfl) (by kernel_rfl) (fun _ _ _ h => h) (Or.inr ⟨by rfl, rfl⟩) (by assumption) ?_
        (try go_simp)
        refine wpAnyH_take (i := 31) (v := undef) rfl (by kernel_rfl) (by kernel_rfl) (by kernel_rfl) (fun _ _ _ h => h) (Or.inr ⟨by rfl, rfl⟩) (by assumption) ?_
        (try go_simp)
        refine wpAnyH_take (i := 32) (v := undef) rfl (by kernel_rfl) (by kernel_rfl) (by kernel_rfl) (fun _ _ _ h => h) (Or.inr ⟨by rfl, rfl⟩) (by assumption) ?_
        (try go_simp)
        refine wpAnyH_take (i := 33) (v := undef) rfl (by kernel_rfl) (by kernel_rfl) (by kernel_rfl) (fun _ _ _ h => h) (Or.inr ⟨by rfl, rfl⟩) (by assumption) ?_
        (try go_simp)
        refine wpAnyH_take (i := 34) (v := undef) rfl (by kernel_rfl) (by kernel_rfl) (by kernel_rfl) (fun _ _ _ h => h) (Or.inr ⟨by rfl, rfl⟩) (by assumption) ?_
        (try go_simp)
        refine wpAnyH_ready (rs := [35]) (by kernel_rfl) (by simp) ?_
        refine AllReadyH.cons rfl (fun K hK => ?_) AllReadyH.nil
        rw [if_neg (fun h => by have h2 : false = true := h; cases h2)]
        refine hK.out _ _ ?_ (fun hHeld => ?_)
        · exact HX.out _ hbz
        clear hK K
        (try go_simp)
        refine wpAnyH_take (i := 36) (v := undef) rfl (by kernel_rfl) (by kernel_rfl) (by kernel_rfl) (fun _ _ _ h => h) (Or.inr ⟨by rfl, rfl⟩) (by assumption) ?_
        (try go_simp)
        refine wpAnyH_take (i := 37) (v := undef) rfl (by kernel_rfl) (by kernel_rfl) (by kernel_rfl) (fun _ _ _ h => h) (Or.inr ⟨by rfl, rfl⟩) (by assumption) ?_
        (try go_simp)
        refine wpAnyH_take (i := 38) (v := ?v38) rfl (by kernel_rfl) (by kernel_rfl) (by kernel_rfl) (fun _ _ _ h => h) (Or.inl ⟨by rfl, ?y38⟩) (by assumption) ?r38
        case y38 => ((intro w hSw; (try dsimp only at hSw); go_simp) <;> (try with_reducible rfl))
        (try go_simp)
        refine wpAnyH_take (i := 39) (v := ?v39) rfl (by kernel_rfl) (by kernel_rfl) (by kernel_rfl) (fun _ _ _ h => h) (Or.inl ⟨by rfl, ?y39⟩) (by assumption) ?r39
        case y39 => ((intro w hSw; (try dsimp only at hSw); go_simp) <;> (try with_reducible rfl))
        (try go_simp)
        refine wpAnyH_done (by kernel_rfl) ?_ _
        all_goals
          go_wp2_with fail
          go_meet
          exact ⟨rfl, Lib.hid hbz⟩
      case rest =>
        obtain ⟨rfl, hbz⟩ := hcut
        have HFB := Lib.hid (HBR.out.trans (hbz.out.mono HBR.out.size))
        clear hbz HX HLK
        go_wp2
        go_roundw
        case rel => first | exact ⟨k + 1, by go_num, by omega, HFB⟩ | ((repeat apply Exists.intro); exact ⟨⟨k + 1, by go_num, by omega, HFB⟩, rfl⟩)
        case measure => simp [intOf]; omega
    · have hkz : (A.length : Int) ≤ (k : Int) := by omega
      go_wp2
      go_ret
      exact ⟨rfl, HBR.out⟩

end Go.Proofs.YthlofmnmacpogaaGreatDoor
