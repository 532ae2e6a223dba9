/- The maker of package put: alone, put. -/
import Derived.Test.YtjmggphnngffjaaPutA
import Derived.StillTailTactics
import Derived.Deep.DeepCutAuto
namespace Go.Proofs.Ytjmggphnngffjaa
open Go.RowKit

/-- the function that tells a zone -/
def tellV (bo : Nat) : Value := .func (.func 36) #[] #[.pointer (some ⟨bo, 0, none⟩)]
/-- how things lie while zones are told -/
structure PI (w0 : World) (base bo bm : Nat) (v1 v2 : Value) (cl : List (Int × Int)) (gl : List Int) (a r : Int) (v : Value) (zs : List Zn) (W : World) : Prop where
  box : Blk W bo #[v] 41
  zones : ZonesAt W base v zs
  maker : Blk W bm #[v1, v2, .int .i64 a, .int .i64 r, tellV bo] 69
  z0 : ZoneIn w0 v1 v2 cl gl
  low : Below w0.heap.size w0 W
  hb : base ≤ W.heap.size
  h0 : w0.heap.size ≤ base
  hbo : w0.heap.size ≤ bo
  ne : bm ≠ bo
theorem PI.zin {w0 W : World} {base bo bm : Nat} {v1 v2 v : Value} {cl : List (Int × Int)} {gl : List Int} {a r : Int} {zs : List Zn} (h : PI w0 base bo bm v1 v2 cl gl a r v zs W) : ZoneIn W v1 v2 cl gl := h.z0.below h.low
theorem PI.step {w0 W W' : World} {base bo bm : Nat} {v1 v2 v v' : Value} {cl : List (Int × Int)} {gl : List Int} {a r : Int} {zs zs' : List Zn} (h : PI w0 base bo bm v1 v2 cl gl a r v zs W) (k : KeepT base bo W W') (hx : Blk W' bo #[v'] 41) (hz : ZonesAt W' base v' zs') : PI w0 base bo bm v1 v2 cl gl a r v' zs' W' :=
  ⟨hx, hz, k.blk h.maker h.ne (by decide), h.z0, h.low.trans (k.below h.h0 h.hbo h.low.size), Nat.le_trans h.hb k.size, h.h0, h.hbo, h.ne⟩
theorem PI.below {w0 W W' : World} {base bo bm : Nat} {v1 v2 v : Value} {cl : List (Int × Int)} {gl : List Int} {a r : Int} {zs : List Zn} (h : PI w0 base bo bm v1 v2 cl gl a r v zs W) (k : Below W.heap.size W W') : PI w0 base bo bm v1 v2 cl gl a r v zs W' :=
  h.step (KeepT.of_below k) (h.box.keep k) (h.zones.below k)

/-- an attribute alone -/
def bitZ (a : Int) : Int := putZ 0 a true

set_option maxHeartbeats 1000000 in
theorem alone_any {W : World} {bm : Nat} {v1 v2 f : Value} {a r : Int} (hm : Blk W bm #[v1, v2, .int .i64 a, .int .i64 r, f] 69) :
    Calls Try.prog 75 #[.pointer (some ⟨bm, 0, none⟩)] W fun e W' => e = .returned (.agg #[.int .i64 (bitZ a), .int .i64 (-1)]) ∧ Below W.heap.size W W' := by
  have hlt := hm.lt
  have c1 : W.cell? ⟨bm, 2, none⟩ = some (.int .i64 a) := hm.cell rfl
  obtain ⟨W1, hW1⟩ : ∃ W1, W.alloc (.cells #[.int .i64 0, .int .i64 0] 63) = W1 := ⟨_, rfl⟩
  have hs1 : W1.heap.size = W.heap.size + 1 := by rw [← hW1]; simp
  obtain ⟨W2, hW2⟩ : ∃ W2, W1.alloc (.cells #[.int .i64 a] 3) = W2 := ⟨_, rfl⟩
  have hs2 : W2.heap.size = W.heap.size + 2 := by rw [← hW2]; simp [hs1]
  have hb1 : Below W.heap.size W W1 := by rw [← hW1]; exact (Below.refl _ W).alloc (Nat.le_refl _) _
  have hb2 : Below W.heap.size W W2 := by rw [← hW2]; exact hb1.alloc (by omega) _
  have c2 : W1.cell? ⟨bm, 2, none⟩ = some (.int .i64 a) := (hm.keep hb1).cell rfl
  have x2 : Blk W2 W.heap.size #[.int .i64 0, .int .i64 0] 63 := by
    rw [← hW2]; exact Blk.alloc (by rw [← hW1]; exact Blk.new _ _ _) _
  have hrd : Reads W2 (.slice (some ⟨W.heap.size + 1, 0, none⟩) 1 1) (ints [a]) := by
    refine .inr ⟨W.heap.size + 1, 0, 1, rfl, by omega, by simp [ints, maxLen], fun t x hx => ?_⟩
    have ht : t = 0 := by have := (List.getElem?_eq_some_iff.1 hx).1; simp [ints] at this; omega
    subst ht
    simp [ints] at hx
    subst hx
    rw [← hW2, ← hs1]
    exact (Blk.new W1 #[.int .i64 a] 3).cell rfl
  have HO := Lib.hid (of_any (.slice (some ⟨W.heap.size + 1, 0, none⟩) 1 1) [a] W2 hrd)
  have hof : ofL [a] = bitZ a := rfl
  rw [hof] at HO
  have d0 := x2.two.1; have d1 := x2.two.2
  have f0 := x2.free 0; have f1 := x2.free 1
  have HB := Lib.hid hb2; have HX := Lib.hid x2
  clear hm hrd hb1 hb2 x2
  obtain ⟨q, hq⟩ : ∃ q, bitZ a = q := ⟨_, rfl⟩
  rw [hq] at HO ⊢
  go_enter Try.func75, Try.ntmps75
  go_wp2_with fail
  refine HO.out.mono ?_
  rintro e w3 ⟨rfl, hw⟩
  rw [← hw]
  clear hw w3
  go_wp2
  have v1 := HX.out.put2 (.int .i64 q) (.int .i64 (-1))
  have e0 := v1.two.1; have e1 := v1.two.2
  refine bodyPost_ret (v := .agg #[.int .i64 q, .int .i64 (-1)]) (by simp [results, Try.results75, go_sem, e0, e1]) rfl ?_
  exact ⟨rfl, (HB.out.setCell (p := ⟨W.heap.size, 0, none⟩) (Nat.le_refl _) _).setCell (p := ⟨W.heap.size, 1, none⟩) (Nat.le_refl _) _⟩

/-- gaps, some of them put instead of others -/
def RepOK (W : World) (gv : Value) (news : List Int) (f u n : Nat) : Prop :=
  (u = f ∧ f ≤ n ∧ ∃ b, gv = .slice (some ⟨b, 0, none⟩) 1 1 ∧ news.length = 1 ∧ b < W.heap.size ∧ ∀ j x, (ints news)[j]? = some x → W.cell? ⟨b, 0 + j, none⟩ = some x) ∨
  (u = f + 1 ∧ f < n ∧ ∃ b, gv = .slice (some ⟨b, 0, none⟩) 2 2 ∧ news.length = 2 ∧ b < W.heap.size ∧ ∀ j x, (ints news)[j]? = some x → W.cell? ⟨b, 0 + j, none⟩ = some x) ∨
  (n = 0 ∧ f = 0 ∧ u = 0 ∧ gv = .slice none 0 0 ∧ news = [])
theorem RepOK.below {W W' : World} {gv : Value} {news : List Int} {f u n : Nat} (h : RepOK W gv news f u n) (hb : Below W.heap.size W W') : RepOK W' gv news f u n := by
  rcases h with ⟨h1, h2, b, h3, h4, h5, h6⟩ | ⟨h1, h2, b, h3, h4, h5, h6⟩ | h
  · exact .inl ⟨h1, h2, b, h3, h4, Nat.lt_of_lt_of_le h5 hb.size, fun j x hx => (hb.cell (p := ⟨b, 0 + j, none⟩) h5).trans (h6 j x hx)⟩
  · exact .inr (.inl ⟨h1, h2, b, h3, h4, Nat.lt_of_lt_of_le h5 hb.size, fun j x hx => (hb.cell (p := ⟨b, 0 + j, none⟩) h5).trans (h6 j x hx)⟩)
  · exact .inr (.inr h)
theorem RepOK.vform {W : World} {gv : Value} {news : List Int} {f u n : Nat} (h : RepOK W gv news f u n) : ∃ ad k, gv = .slice ad k k ∧ u ≤ n + 1 ∧ f ≤ n := by
  rcases h with ⟨h1, h2, b, h3, _⟩ | ⟨h1, h2, b, h3, _⟩ | ⟨h1, h2, h3, h4, _⟩
  · exact ⟨_, _, h3, by omega, h2⟩
  · exact ⟨_, _, h3, by omega, by omega⟩
  · exact ⟨_, _, h4, by omega, by omega⟩

def repG (gl : List Int) (f u : Nat) (news : List Int) : List Int := gl.take f ++ news ++ gl.drop u
theorem repG_ints (gl : List Int) (f u : Nat) (news : List Int) : ints (repG gl f u news) = (ints gl).take f ++ ints news ++ (ints gl).drop u := by simp [repG, ints]

set_option maxHeartbeats 1000000 in
set_option maxRecDepth 1000000 in
theorem rep_any (g n base f u : Nat) (gv : Value) (gl news : List Int) (w : World) (hown : w.ownsRow base 3 1 (.slice (some ⟨g, 0, none⟩) n n) n (ints gl)) (hn : n ≤ 65536) (hb : base ≤ w.heap.size) (hr : RepOK w gv news f u n) :
    Calls Try.prog 76 #[.slice (some ⟨g, 0, none⟩) n n, .int .i64 f, .int .i64 u, gv] w fun e w' => ∃ g' cap', e = .returned (.slice (some ⟨g', 0, none⟩) (repG gl f u news).length cap') ∧
      w'.ownsRow base 3 1 (.slice (some ⟨g', 0, none⟩) (repG gl f u news).length cap') (repG gl f u news).length (ints (repG gl f u news)) ∧ Below w.heap.size w w' := by
  have hlen : gl.length = n := by have := hown.1; rw [ints_len] at this; omega
  rcases hr with ⟨rfl, h2, b, rfl, h4, h5, h6⟩ | ⟨rfl, h2, b, rfl, h4, h5, h6⟩ | ⟨rfl, rfl, rfl, rfl, rfl⟩
  · refine (rep_same g n base u b 0 1 (ints gl) (ints news) w hown (ints_one _) h2 hn (by rw [ints_len, h4]) (by decide) (by decide) (ints_one _) h5 h6).mono ?_
    rintro e w' ⟨g', cap', rfl, ho, hb'⟩
    have e1 : (repG gl u u news).length = n + 1 := by simp [repG, h4]; omega
    rw [e1, repG_ints]
    exact ⟨g', cap', rfl, owns_mono ho hb, hb'⟩
  · have hc : (((f + 1 : Nat) : Int)) = (f : Int) + 1 := by omega
    rw [hc]
    refine (rep_two g n base f b 0 (ints gl) (ints news) w hown (ints_one _) h2 hn (by rw [ints_len, h4]) (ints_one _) h5 h6).mono ?_
    rintro e w' ⟨g', cap', rfl, ho, hb'⟩
    have e1 : (repG gl f (f + 1) news).length = n + 1 := by simp [repG, h4]; omega
    rw [e1, repG_ints]
    exact ⟨g', cap', rfl, owns_mono ho hb, hb'⟩
  · obtain rfl : gl = [] := List.eq_nil_of_length_eq_zero hlen
    have HO := Lib.hid hown
    clear hown hlen
    have HI : Hid (Calls Try.prog 83 #[.slice (some ⟨g, 0, none⟩) 0 0, .int .i64 0, .slice none 0 0] w fun e w' => e = .returned (.slice (some ⟨g, 0, none⟩) 0 0) ∧ w' = w) := by
      unfold Hid
      go_enter Try.func83, Try.ntmps83
      go_wp2
      go_ret
      exact ⟨rfl, rfl⟩
    go_enter Try.func76, Try.ntmps76
    go_wp2_with fail
    refine HI.out.mono ?_
    rintro e w1 ⟨rfl, rfl⟩
    go_wp2
    go_ret
    exact ⟨g, 0, rfl, HO.out, Below.refl _ _⟩

end Go.Proofs.Ytjmggphnngffjaa
