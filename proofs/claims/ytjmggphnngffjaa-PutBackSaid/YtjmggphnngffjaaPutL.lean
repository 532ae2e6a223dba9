/- The law PutPuts: SameAll, Great, awake. -/
import Derived.Test.YtjmggphnngffjaaRPutF
import Derived.Test.YtjmggphnngffjaaZSame
namespace Go.Proofs.Ytjmggphnngffjaa
open Go.RowKit Go.Shelf

def SmallZ (z : Zn) : Prop := z.1.length ≤ 1000 ∧ z.2.length ≤ 1000
theorem own_small (cl : List (Int × Int)) (gl : List Int) (a r : Int) (k f u : Nat) (news : List Int) (h1 : cl.length ≤ 60) (h2 : gl.length ≤ 60) (h3 : news.length ≤ 16) : SmallZ (ownZ cl gl a r k f u news) := by
  refine ⟨by simp only [ownZ, ownC_len]; omega, ?_⟩
  simp only [ownZ, repG, List.length_append, List.length_take, List.length_drop, clipL_len]
  omega
theorem in_small (cl : List (Int × Int)) (gl : List Int) (a r : Int) (i : Nat) (x y : Int) (h1 : cl.length ≤ 60) (h2 : gl.length ≤ 60) : SmallZ (inCZ cl gl a r i x y) :=
  ⟨by simp only [inCZ, List.length_set]; omega, by simp only [inCZ, clipL_len]; omega⟩
theorem putA_small (cl : List (Int × Int)) (gl : List Int) (a r : Int) (h1 : cl.length ≤ 60) (h2 : gl.length ≤ 60) : ∀ z ∈ putA cl gl a r, SmallZ z := by
  intro z hz
  unfold putA at hz
  split at hz
  · simp only [List.mem_singleton] at hz
    subst hz; exact own_small _ _ _ _ _ _ _ _ h1 h2 (by simp)
  · rw [List.mem_append, List.mem_append] at hz
    rcases hz with (hz | hz) | hz
    · obtain ⟨g, _, rfl⟩ := List.mem_map.1 hz
      exact own_small _ _ _ _ _ _ _ _ h1 h2 (by simp)
    · obtain ⟨i, _, hz⟩ := List.mem_flatMap.1 hz
      unfold stepZ at hz
      rcases List.mem_cons.1 hz with rfl | hz
      · exact in_small _ _ _ _ _ _ _ h1 h2
      · split at hz
        · obtain ⟨s, _, rfl⟩ := List.mem_map.1 hz
          exact own_small _ _ _ _ _ _ _ _ h1 h2 (by simp)
        · cases hz
    · obtain ⟨g, _, rfl⟩ := List.mem_map.1 hz
      exact own_small _ _ _ _ _ _ _ _ h1 h2 (by simp)
theorem putL_small (cl : List (Int × Int)) (gl : List Int) (a r : Int) (h1 : cl.length ≤ 60) (h2 : gl.length ≤ 60) : ∀ z ∈ putL cl gl a r, SmallZ z := by
  intro z hz
  unfold putL at hz
  repeat' split at hz
  all_goals first | (cases hz; done) | exact putA_small cl gl a r h1 h2 z hz
theorem putA_len (cl : List (Int × Int)) (gl : List Int) (a r : Int) (h1 : cl.length ≤ 60) (hr1 : 1 ≤ r) (hr2 : r ≤ 6) : (putA cl gl a r).length ≤ 70000 := by
  unfold putA
  split
  · simp
  · rw [List.length_append, List.length_append, headZ_len, tailZ_len, List.length_reverse]
    have m1 := midZ_len cl gl a r cl.length hr1 hr2
    have m2 := outL_len r hr1 hr2
    have m3 : cl.length * 1025 ≤ 60 * 1025 := Nat.mul_le_mul_right _ h1
    omega
theorem putL_len (cl : List (Int × Int)) (gl : List Int) (a r : Int) (h1 : cl.length ≤ 60) (hr2 : r ≤ 6) : (putL cl gl a r).length ≤ 70000 := by
  unfold putL
  split
  · simp
  · repeat' split
    all_goals first | (simp; done) | exact putA_len cl gl a r h1 (by omega) hr2

/-- a zone of a row -/
theorem ZonesAt.at {W : World} {base n cap : Nat} {ad : Option Addr} {zs : List Zn} (h : ZonesAt W base (.slice ad n cap) zs) {k : Nat} {z : Zn} (hk : zs[k]? = some z) :
    ∃ g c1 c2, ad = some ⟨g, 0, none⟩ ∧ n = zs.length ∧ W.cell? ⟨g, k * 2, none⟩ = some c1 ∧ W.cell? ⟨g, k * 2 + 1, none⟩ = some c2 ∧ ZoneAt W base c1 c2 z.1 z.2 := by
  obtain ⟨ps, hl, hr, hz⟩ := h
  have hkl := (List.getElem?_eq_some_iff.1 hk).1
  obtain ⟨p, hp⟩ : ∃ p, ps[k]? = some p := ⟨_, List.getElem?_eq_getElem (by omega)⟩
  obtain ⟨g, cap', e1, _, _⟩ := owns_shape hr (by omega)
  simp only [Value.slice.injEq] at e1
  obtain ⟨rfl, hn, rfl⟩ := e1
  subst hn
  obtain ⟨c1, c2⟩ := zcells_get ps k p hp
  exact ⟨g, p.1, p.2, rfl, rfl, by rw [hr.cellAt _ (by omega)]; exact c1, by rw [hr.cellAt _ (by omega)]; exact c2, hz k p z hp hk⟩

set_option maxRecDepth 100000 in
set_option maxHeartbeats 2000000 in
theorem sameAll_any {w : World} {b1 b2 : Nat} {v1 v2 : Value} {zs : List Zn} (h1 : ZonesAt w b1 v1 zs) (h2 : ZonesAt w b2 v2 zs) (hs : ∀ z ∈ zs, SmallZ z) (hl : zs.length ≤ 100000) :
    Calls Try.prog 26 #[v1, v2] w fun e w' => e = .returned (.bool true) ∧ Below w.heap.size w w' := by
  obtain ⟨ad1, k1, rfl⟩ := h1.len
  obtain ⟨ad2, k2, rfl⟩ := h2.len
  obtain ⟨n, hn⟩ : ∃ n, zs.length = n := ⟨_, rfl⟩
  have HN := Lib.hid hn; have H1 := Lib.hid h1; have H2 := Lib.hid h2; have HS := Lib.hid hs
  rw [hn] at H1 H2 hl ⊢
  clear h1 h2 hs hn
  go_enter Try.func26, Try.ntmps26
  go_wp2_with fail
  go_loopw [5] (fun i wr => ∃ k : Nat, k ≤ n ∧ i = .int .i64 k ∧ Hid (Below w.heap.size w wr)) (fun i _ => n - (intOf i).toNat)
  case atStart => exact ⟨0, Nat.zero_le _, rfl, Below.refl _ _⟩
  case round =>
    obtain ⟨k, hk, rfl, HB⟩ := hrel
    by_cases hlt : k < n
    · have hkn : (k : Int) < (n : Int) := by omega
      have hk0 : (0 : Int) ≤ (k : Int) := by omega
      obtain ⟨z, hz⟩ : ∃ z, zs[k]? = some z := ⟨_, List.getElem?_eq_getElem (by rw [HN.out]; exact hlt)⟩
      obtain ⟨g1, c1, c2, rfl, -, d0, d1, hz1⟩ := (H1.out.below HB.out).at hz
      obtain ⟨g2, c3, c4, rfl, -, d2, d3, hz2⟩ := (H2.out.below HB.out).at hz
      obtain ⟨s1, s2⟩ := HS.out z (List.mem_of_getElem? hz)
      have HSM := Lib.hid (zsame_eq b1 b2 c1 c2 c3 c4 z.1 z.2 wr.drew hz1 hz2 (by omega) (by omega))
      obtain ⟨xa, xc, hx1⟩ := owns_len hz1.1
      obtain ⟨ya, yc, hy1⟩ := owns_len hz1.2
      obtain ⟨xa', xc', hx2⟩ := owns_len hz2.1
      obtain ⟨ya', yc', hy2⟩ := owns_len hz2.2
      subst hx1; subst hy1; subst hx2; subst hy2
      clear hz hz1 hz2
      go_upto_region 6 with fail
      go_cut [26] from 11 to 26 (fun v26 wx => v26 = .bool false ∧ Hid (Below w.heap.size w wx))
      case first =>
        go_region_law (first
          | (go_simp; go_at_call 23; (with_reducible refine HSM.out.mono ?_)
             rintro e w5 ⟨rfl, hb5⟩
             have HB5 := Lib.hid (show Below w.heap.size w w5 from HB.out.drew.trans (hb5.mono HB.out.drew.size))
             clear hb5))
        all_goals
          go_wp2_with fail
          go_meet
          exact ⟨rfl, HB5⟩
      case rest =>
        clear d0 d1 d2 d3 HSM HB
        obtain ⟨rfl, HB⟩ := hcut
        go_wp2_with fail
        go_roundw
        case rel => exact ⟨k + 1, by omega, by go_num, HB⟩
        case measure => simp [intOf]; omega
    · obtain rfl : k = n := by omega
      go_wp2
      go_ret
      exact ⟨rfl, HB.out⟩

set_option maxRecDepth 100000 in
theorem great_any {w : World} {v1 v2 : Value} {cl : List (Int × Int)} {gl : List Int} (hz : ZoneIn w v1 v2 cl gl) :
    Calls Try.prog 20 #[.agg #[v1, v2]] w fun e w' => e = .returned (.bool (decide (40 < cl.length) || decide (40 < gl.length))) ∧ Below w.heap.size w w' := by
  obtain ⟨ad1, cap1, rfl⟩ := hz.1.len
  obtain ⟨ad2, cap2, rfl⟩ := hz.2.len
  obtain ⟨n, hn⟩ : ∃ n, cl.length = n := ⟨_, rfl⟩
  obtain ⟨m, hm⟩ : ∃ m, gl.length = m := ⟨_, rfl⟩
  rw [hn, hm]
  clear hz hn hm
  by_cases h1 : 40 < n
  · have p1 : (40 : Int) < (n : Int) := by omega
    go_enter Try.func20, Try.ntmps20
    go_wp2
    go_ret
    exact ⟨ret_bool (by simp [h1]), (Below.refl _ w).alloc (Nat.le_refl _) _⟩
  · have p1 : ¬ (40 : Int) < (n : Int) := by omega
    by_cases h2 : 40 < m
    · have p2 : (40 : Int) < (m : Int) := by omega
      go_enter Try.func20, Try.ntmps20
      go_wp2
      go_ret
      exact ⟨ret_bool (by simp), (Below.refl _ w).alloc (Nat.le_refl _) _⟩
    · have p2 : ¬ (40 : Int) < (m : Int) := by omega
      go_enter Try.func20, Try.ntmps20
      go_wp2
      go_ret
      exact ⟨ret_bool (by simp), (Below.refl _ w).alloc (Nat.le_refl _) _⟩

theorem awake_L : putL [(2, -1)] [] 0 1 = [([(1, -1), (2, -1)], [0]), ([(3, -1)], []), ([(2, -1), (1, -1)], [0])] := by decide +kernel

end Go.Proofs.Ytjmggphnngffjaa
