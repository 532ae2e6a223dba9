/- Contract of the token reader's take: one token more, the place moved on. Plain law: the reference's reading of UTF-8, byte by byte, is the model's; no program in sight. Contracts of warderref01: tail, low, First. Contracts of warderref01: All, Runes, End. Contracts of warderref02's small functions. Contracts of warderref02's sign and hasGreat. Plain: the number of a text of digits, a - anywhere passed by. Contract of warderref02's value. Contracts of warderref02's words and Known. Contract of strings.TrimPrefix at a -, for token's value. -/
import Derived.Test.YthhjepgcbfmfeaaGreatDoorSb03
import Derived.Deep.RegionLaw
import Derived.BigRegion
import Derived.Test.YthhjepgcbfmfeaaGreatDoorSb01
import Derived.Lib.Strings

namespace Go.Proofs.YthhjepgcbfmfeaaGreatDoor
open Go.RowKit
theorem info_token : (Tryz.prog.info? 54).map (fun i => (i.zero, i.size, i.bytes)) = some (some (.agg #[.int .i64 0, .string ⟨#[]⟩, .int .i64 0, .int .i64 0, .int .i64 0]), 5, 48) := by kernel_rfl

theorem owns_ne_block {w : World} {base : Nat} {e t : TypeId} {sz : Nat} {v : Value} {n k : Nat} {xs : List Value} {cs : Array Value} {fr : Nat × Nat} (h : w.ownsRow base e sz v n xs) (hk : w.heap[k]? = some (.cells cs t fr)) (hne : t ≠ e) : v.ownBlock ≠ some k := by
  rcases h.2 with ⟨rfl, _⟩ | ⟨g, cap, cur, rfl, _, hg, _⟩
  · simp [Value.ownBlock]
  · intro hgk
    simp [Value.ownBlock] at hgk
    subst hgk
    rw [hk] at hg
    simp at hg
    exact hne hg.2.1

theorem heap_far2 {w w3 : World} {o1 o2 : Obj} {row : Option Nat} {b : Nat} (hg : (((w.alloc o1).drew.drew).alloc o2).grownBy w3 row) (hb : b < w.heap.size) (hne : row ≠ some b) : w3.heap[b]? = w.heap[b]? := by
  rw [hg.block b (by simp; omega) (Ne.symm hne)]
  exact (Below.heap_alloc _ _ _ (by show b < (w.alloc o1).heap.size; simp; omega)).trans (Below.heap_alloc _ _ _ hb)
theorem cell_far2 {w w3 : World} {o1 o2 : Obj} {row : Option Nat} {b j : Nat} {v : Value} (hg : (((w.alloc o1).drew.drew).alloc o2).grownBy w3 row) (hb : b < w.heap.size) (hne : row ≠ some b) (h : w.cell? ⟨b, j, none⟩ = some v) : w3.cell? ⟨b, j, none⟩ = some v :=
  (World.cell?_of_block (a := ⟨b, j, none⟩) (heap_far2 hg hb hne)).trans h
theorem frozen_far2 {w w3 : World} {o1 o2 : Obj} {row : Option Nat} {b j : Nat} {v : Bool} (hg : (((w.alloc o1).drew.drew).alloc o2).grownBy w3 row) (hb : b < w.heap.size) (hne : row ≠ some b) (h : w.frozen? ⟨b, j, none⟩ = v) : w3.frozen? ⟨b, j, none⟩ = v :=
  (World.frozen?_of_block (a := ⟨b, j, none⟩) (heap_far2 hg hb hne)).trans h

theorem heap_new2 {w w3 : World} {o1 o2 : Obj} {row : Option Nat} (hg : (((w.alloc o1).drew.drew).alloc o2).grownBy w3 row) (hne : row ≠ some w.heap.size) : w3.heap[w.heap.size]? = some o1 := by
  rw [hg.block w.heap.size (by simp; omega) (Ne.symm hne)]
  exact (Below.heap_alloc _ _ _ (by show w.heap.size < (w.alloc o1).heap.size; simp)).trans (heap_alloc_new w o1)
theorem cell_new2 {w w3 : World} {cs : Array Value} {t : TypeId} {o2 : Obj} {row : Option Nat} {j : Nat} (hg : (((w.alloc (.cells cs t)).drew.drew).alloc o2).grownBy w3 row) (hne : row ≠ some w.heap.size) : w3.cell? ⟨w.heap.size, j, none⟩ = cs[j]? :=
  cell_of_row _ _ _ _ _ _ (heap_new2 hg hne)
theorem owns_ne_row {w : World} {b1 b2 : Nat} {e1 e2 : TypeId} {s1 s2 : Nat} {v1 : Value} {n1 n2 g cap : Nat} {xs1 xs2 : List Value} (h1 : w.ownsRow b1 e1 s1 v1 n1 xs1) (h2 : w.ownsRow b2 e2 s2 (.slice (some ⟨g, 0, none⟩) n2 cap) n2 xs2) (hne : e2 ≠ e1) : v1.ownBlock ≠ some g := by
  rcases h2.2 with ⟨h, _⟩ | ⟨g', cap', cur, hv, _, hg, _⟩
  · simp at h
  · simp only [Value.slice.injEq, Option.some.injEq, Addr.mk.injEq, true_and, and_true] at hv
    obtain ⟨rfl, _⟩ := hv
    exact owns_ne_block h1 hg hne

/-- what taking a token leaves -/
structure Took (w w' : World) (B b : Nat) (s : ByteArray) (L : List Rn) (lv : Value) (i : Nat) (ov : Value) (T : List Tk) : Prop where
  rd : Rd w' B b s L lv i ov T
  low : Below B w w'
  kept : Lib.OthersKept 54 (some b) w w'

theorem Took.drewN {w w' : World} {B b : Nat} {s : ByteArray} {L : List Rn} {lv : Value} {i : Nat} {ov : Value} {T : List Tk} (h : Took w w' B b s L lv i ov T) (n : Nat) : Took w (w'.drewN n) B b s L lv i ov T :=
  ⟨⟨h.rd.blk, h.rd.low, h.rd.run, h.rd.out⟩, Go.below_drewN h.low n, h.kept⟩

theorem Rd.took {w w3 : World} {B b g3 cap3 : Nat} {s : ByteArray} {L : List Rn} {lv : Value} {i j : Nat} {ov : Value} {T : List Tk} {o1 : Obj} {cs2 : Array Value} (x : Tk) (h : Rd w B b s L lv i ov T)
    (hg : (((w.alloc o1).drew.drew).alloc (.cells cs2 54)).grownBy w3 ov.ownBlock) (hB : B ≤ w.heap.size) (hat : ov.ownBlock = some g3 ∨ g3 = w.heap.size + 2)
    (hown3 : w3.ownsRow B 54 5 (.slice (some ⟨g3, 0, none⟩) (T.length + 1) cap3) (T.length + 1) (tkFlat T ++ tkCells x)) :
    Took w ((w3.setCell ⟨b, 3, none⟩ (.slice (some ⟨g3, 0, none⟩) (T.length + 1) cap3)).setCell ⟨b, 2, none⟩ (.int .i64 j)) B b s L lv j (.slice (some ⟨g3, 0, none⟩) (T.length + 1) cap3) (T ++ [x]) := by
  have hbl := h.lt
  have hne := owns_ne_block h.out h.blk (by decide)
  have hb3 : w3.heap[b]? = _ := (heap_far2 hg hbl hne).trans h.blk
  have hg3b : g3 ≠ b := by
    rcases hat with e | e
    · intro e'; exact hne (by rw [e, e'])
    · omega
  have h4 := heap_setCell_same w3 b 3 _ _ (.slice (some ⟨g3, 0, none⟩) (T.length + 1) cap3) hb3
  have h5 := heap_setCell_same _ b 2 _ _ (.int .i64 j) h4
  have hrow : ∀ k, ov.ownBlock = some k → B ≤ k := fun k e => (h.out.lt k e).1
  have lowA : Below B w (((w.alloc o1).drew.drew).alloc (.cells cs2 54)) := (((Below.refl B w).alloc hB o1).drew.drew).alloc (by simp; omega) _
  have low3 : Below B w w3 := lowA.grown hg (by simp; omega) hrow
  have kept3 : ∀ k, k < w.heap.size → ov.ownBlock ≠ some k → w3.heap[k]? = w.heap[k]? := fun k hk hne' => heap_far2 hg hk hne'
  have run3 : w3.ownsRow B 89 5 lv L.length (rnFlat .i32 L) := by
    refine ⟨h.run.1, ?_⟩
    rcases h.run.2 with hn | ⟨g, cap, cur, hv, hBg, hgg, r⟩
    · exact .inl hn
    · exact .inr ⟨g, cap, cur, hv, hBg, (kept3 g (Array.getElem?_eq_some_iff.1 hgg).1 (owns_ne_block h.out hgg (by decide))).trans hgg, r⟩
  have other : ∀ (e : TypeId) (sz : Nat) (v : Value) (n : Nat) (xs : List Value) (W : World) (j : Nat) (u : Value), e ≠ 71 → (∃ cs t, W.heap[b]? = some (.cells cs t (0, 0)) ∧ t = 71) → W.ownsRow B e sz v n xs → (W.setCell ⟨b, j, none⟩ u).ownsRow B e sz v n xs := by
    intro e sz v n xs W j u he hWb ho
    obtain ⟨cs, t, hWb, rfl⟩ := hWb
    have hnb := owns_ne_block ho hWb (Ne.symm he)
    refine ⟨ho.1, ?_⟩
    rcases ho.2 with hn | ⟨g, cap, cur, hv, hBg, hgg, r⟩
    · exact .inl hn
    · exact .inr ⟨g, cap, cur, hv, hBg, (Below.heap_setCell _ _ _ _ (by show g ≠ b; intro e'; exact hnb (by rw [hv, e']; rfl))).trans hgg, r⟩
  refine ⟨⟨?_, h.low, ?_, ?_⟩, ?_, ?_⟩
  · simpa using h5
  · exact other _ _ _ _ _ _ _ _ (by decide) ⟨_, _, h4, rfl⟩ (other _ _ _ _ _ _ _ _ (by decide) ⟨_, _, hb3, rfl⟩ run3)
  · rw [tkFlat_snoc, List.length_append]
    exact other _ _ _ _ _ _ _ _ (by decide) ⟨_, _, h4, rfl⟩ (other _ _ _ _ _ _ _ _ (by decide) ⟨_, _, hb3, rfl⟩ hown3)
  · exact (low3.setCell (p := ⟨b, 3, none⟩) h.low _).setCell (p := ⟨b, 2, none⟩) h.low _
  · intro k o hk hkb hko
    have hk1 := (Array.getElem?_eq_some_iff.1 hk).1
    have hkb' : k ≠ b := fun e => hkb (by rw [e])
    have hkr : ov.ownBlock ≠ some k := by
      intro e
      rcases h.out.2 with ⟨rfl, _⟩ | ⟨g, cap, cur, rfl, _, hgg, _⟩
      · simp [Value.ownBlock] at e
      · simp [Value.ownBlock] at e
        subst e
        rw [hk] at hgg
        exact hko _ _ (Option.some.inj hgg)
    rw [Below.heap_setCell _ _ _ _ (by show k ≠ b; exact hkb'), Below.heap_setCell _ _ _ _ (by show k ≠ b; exact hkb'), kept3 k hk1 hkr]
    exact hk

/-- the load of the reader's tokens, under a name of its own: it isn't held, for that cell is written at the region's end -/
def ldOut : Op := Op.load 48 (Operand.tmp 21)
theorem ldOut_is : Op.load 48 (Operand.tmp 21) = ldOut := rfl
attribute [local go_sem] ldOut

set_option maxHeartbeats 2000000 in
theorem take_any {w : World} {B b : Nat} {s : ByteArray} {L : List Rn} {lv : Value} {i : Nat} {ov : Value} {T : List Tk} (h : Rd w B b s L lv i ov T) (kind : Int) (n : Nat) (x y : Rn) (hx : L[i]? = some x) (hy : L[i + (n - 1)]? = some y) (hn : 1 ≤ n) (hL : L.length ≤ 16385) (hT : T.length ≤ 100000)
    (hxy : x.fr ≤ y.to) (hys : y.to ≤ s.size) (hB : B ≤ w.heap.size) :
    Calls Tryz.prog 55 #[.pointer (some ⟨b, 0, none⟩), .int .i64 kind, .int .i64 n] w fun e w' => ∃ g3 cap3, e = .returned (.pointer (some ⟨g3, T.length * 5, none⟩)) ∧
      Took w w' B b s L lv (i + n) (.slice (some ⟨g3, 0, none⟩) (T.length + 1) cap3) (T ++ [⟨kind, s.extract x.fr y.to, 0, x.line, x.col⟩]) := by
  have hi := (List.getElem?_eq_some_iff.1 hx).1
  have hj := (List.getElem?_eq_some_iff.1 hy).1
  obtain ⟨c0, c1, c2, c3, f2, f3⟩ := h.facts
  obtain ⟨g, cap, rfl, d0, d1, d2, d3, d4⟩ := h.rune hx
  obtain ⟨g', cap', hv, _, _, e2, _, _⟩ := h.rune hy
  simp only [Value.slice.injEq, Option.some.injEq, Addr.mk.injEq, true_and, and_true] at hv
  obtain ⟨rfl, rfl⟩ := hv
  have hbl := h.lt
  have hgl := World.block_lt_of_cell? w _ d0
  have hiz : (i : Int) < (L.length : Int) := by omega
  have hjz : (i : Int) + n - 1 < (L.length : Int) := by omega
  have hjz0 : (0 : Int) ≤ (i : Int) + n - 1 := by omega
  have hjt : ((i : Int) + (n : Int) - 1).toNat = i + (n - 1) := by omega
  have hw1 : IntKind.i64.wrap ((i : Int) + (n : Int)) = (i : Int) + n := IntWalk.i64_in _ (by omega)
  have hw2 : IntKind.i64.wrap ((i : Int) + (n : Int) - 1) = (i : Int) + n - 1 := IntWalk.i64_in _ (by omega)
  have hq1 : (1 : Int) ≤ (i : Int) + n := by omega
  have hxz : (x.fr : Int) ≤ (y.to : Int) := by omega
  have hyz : (y.to : Int) ≤ (s.size : Int) := by omega
  have hfz : ¬ (y.to : Int) < (x.fr : Int) := by omega
  have HOUT := Lib.hid h.out
  have hlow := h.low
  have HNE := Lib.hid (owns_ne_block h.out h.blk (by decide))
  have HNG := Lib.hid (owns_ne_row h.out h.run (by decide))
  have HNW : Hid (ov.ownBlock ≠ some w.heap.size) := fun e => by have := (h.out.lt _ e).2; omega
  have hgb : g ≠ b := fun e => absurd (owns_ne_block h.run h.blk (by decide)) (by simp [Value.ownBlock, e])
  have HC3 := Lib.hid (And.intro c3 (And.intro c2 (And.intro f3 f2)))
  obtain ⟨i0, hi0, hz0, hz1, hz2⟩ := info_parts info_token
  have HIP := Lib.hid (And.intro hi0 (And.intro hz0 (And.intro hz1 hz2)))
  have HRD := Lib.hid h
  clear hi0 hz0 hz1 hz2 hx hy h
  go_enter Tryz.func55, Tryz.ntmps55
  go_wp2
  go_region_held3 (fun w' => w'.cell? ⟨b, 1, none⟩ = some (.slice (some ⟨g, 0, none⟩) L.length cap) ∧ w'.cell? ⟨b, 2, none⟩ = some (.int .i64 i) ∧ w'.cell? ⟨g, i * 5, none⟩ = some (.int .i32 x.r) ∧ w'.cell? ⟨g, i * 5 + 1, none⟩ = some (.int .i64 x.fr) ∧ w'.cell? ⟨g, i * 5 + 2, none⟩ = some (.int .i64 x.to) ∧ w'.cell? ⟨g, i * 5 + 3, none⟩ = some (.int .i64 x.line) ∧ w'.cell? ⟨g, i * 5 + 4, none⟩ = some (.int .i64 x.col))
    (first | go_keep)
    (first | fail)
  go_wp2
  clear hi hj
  rw [ldOut_is]
  go_region_held3 (fun w' => w'.cell? ⟨b, 0, none⟩ = some (.string s) ∧ w'.cell? ⟨b, 1, none⟩ = some (.slice (some ⟨g, 0, none⟩) L.length cap) ∧ w'.cell? ⟨b, 2, none⟩ = some (.int .i64 i) ∧ w'.cell? ⟨g, (i + (n - 1)) * 5 + 2, none⟩ = some (.int .i64 y.to) ∧ w'.cell? ⟨w.heap.size, 1, none⟩ = some (.int .i64 x.fr) ∧ w'.cell? ⟨w.heap.size, 3, none⟩ = some (.int .i64 x.line) ∧ w'.cell? ⟨w.heap.size, 4, none⟩ = some (.int .i64 x.col))
    (first | go_keep | (refine ⟨?_, ?_, ?_, ?_, ?_, ?_, ?_⟩ <;> (first | assumption | go_keep | (rw [World.cell?_setCell_other _ _ _ _ (by first | (simp; done) | (simp; omega))]; assumption))))
    ((refine step_append_lies _ (by rfl) _ _ _ (by rfl) B 54 i0 _ 5 48 Tryz.underlying48 HIP.out.1 HIP.out.2.1 HIP.out.2.2.1 HIP.out.2.2.2 rfl (by omega) ov T.length (tkFlat T) (by rfl) (World.ownsRow.alloc (World.ownsRow.drew (World.ownsRow.drew (World.ownsRow.alloc HOUT.out _))) _) ⟨w.heap.size + 1, 0, none⟩ 1 1 [.int .i64 kind, .string (s.extract x.fr y.to), .int .i64 0, .int .i64 x.line, .int .i64 x.col] (by rfl) (by rfl) (World.news_of_block (cs := #[.int .i64 kind, .string (s.extract x.fr y.to), .int .i64 0, .int .i64 x.line, .int .i64 x.col]) (t := 54) (fr := (0, 0)) (by show ((w.alloc _).alloc _).heap[w.heap.size + 1]? = _; have := heap_alloc_new (w.alloc (.cells #[.int .i32 x.r, .int .i64 x.fr, .int .i64 x.to, .int .i64 x.line, .int .i64 x.col] 89)) (.cells #[.int .i64 kind, .string (s.extract x.fr y.to), .int .i64 0, .int .i64 x.line, .int .i64 x.col] 54); simpa using this)) (by simp [Value.oneCell']) (by omega) (by unfold maxLen; omega) (by omega) (by simp; omega) (w.heap.size + 2) (by simp) ?_; intro g3 cap3 w3 hown3 hgrow hat hlt3; have p3 := cell_far2 hgrow hbl HNE.out HC3.out.1; have p2 := cell_far2 hgrow hbl HNE.out HC3.out.2.1; have p5 := frozen_far2 hgrow hbl HNE.out HC3.out.2.2.1; have p4 := frozen_far2 hgrow hbl HNE.out HC3.out.2.2.2; have p0 := cell_far2 hgrow hbl HNE.out c0; have p1 := cell_far2 hgrow hbl HNE.out c1; have pg := cell_far2 hgrow hgl HNG.out e2; have n1 := cell_new2 (j := 1) hgrow HNW.out; have n3 := cell_new2 (j := 3) hgrow HNW.out; have n4 := cell_new2 (j := 4) hgrow HNW.out; simp only [List.getElem?_toArray, List.getElem?_cons_zero, List.getElem?_cons_succ] at n1 n3 n4))
  all_goals
    have HTK := Lib.hid (Rd.took (j := i + n) ⟨kind, s.extract x.fr y.to, 0, x.line, x.col⟩ HRD.out hgrow hB hat hown3)
    clear hgrow hown3 hat n1 n3 n4 pg p0 p1
    go_wp2
    go_quiet (fail)
    go_wp2
    go_ret
    exact ⟨g3, cap3, rfl, HTK.out.drewN _⟩
end Go.Proofs.YthhjepgcbfmfeaaGreatDoor

namespace Go.Proofs.YthhjepgcbfmfeaaGreatDoor
open Go.RowKit

/- the reference's reading, byte by byte -/
def byteAt (s : ByteArray) (i : Nat) : Nat := (s.get! i).toNat
theorem byteAt_lt (s : ByteArray) (i : Nat) : byteAt s i < 256 := (s.get! i).toNat_lt
theorem byteAt_get (s : ByteArray) (i : Nat) (h : i < s.size) : byteAt s i = (s[i]'h).toNat := by
  unfold byteAt
  have := get_at s i h
  rw [Nat.add_zero] at this
  rw [this]

def tailB (s : ByteArray) (i least most : Nat) : Bool := decide (i < s.size) && (decide (least ≤ byteAt s i) && decide (byteAt s i ≤ most))

def firstRef (s : ByteArray) (i : Nat) : Int × Nat :=
  let c := byteAt s i
  if c < 128 then (c, 1) else
  if 194 ≤ c ∧ c ≤ 223 ∧ tailB s (i + 1) 128 191 then (((c % 32 * 64 + byteAt s (i + 1) % 64 : Nat) : Int), 2) else
  let least := if c = 240 then 144 else if c = 224 then 160 else 128
  let most := if c = 244 then 143 else if c = 237 then 159 else 191
  if tailB s (i + 1) least most = false ∨ tailB s (i + 2) 128 191 = false then (-1, 1) else
  if 224 ≤ c ∧ c ≤ 239 then (((c % 16 * 4096 + byteAt s (i + 1) % 64 * 64 + byteAt s (i + 2) % 64 : Nat) : Int), 3) else
  if 240 ≤ c ∧ c ≤ 244 ∧ tailB s (i + 3) 128 191 then (((c % 8 * 262144 + byteAt s (i + 1) % 64 * 4096 + byteAt s (i + 2) % 64 * 64 + byteAt s (i + 3) % 64 : Nat) : Int), 4) else
  (-1, 1)

def decP (c d e f : Nat) (p1 p2 p3 : Bool) : Nat × Nat :=
  if c < 128 then (c, 1)
  else if c / 32 = 6 ∧ p1 = true ∧ d / 64 = 2 then
    if 128 ≤ c % 32 * 64 + d % 64 then (c % 32 * 64 + d % 64, 2) else (65533, 1)
  else if c / 16 = 14 ∧ p1 = true ∧ d / 64 = 2 ∧ p2 = true ∧ e / 64 = 2 then
    if 2048 ≤ c % 16 * 4096 + d % 64 * 64 + e % 64 ∧ (c % 16 * 4096 + d % 64 * 64 + e % 64 < 55296 ∨ (57344 ≤ c % 16 * 4096 + d % 64 * 64 + e % 64 ∧ c % 16 * 4096 + d % 64 * 64 + e % 64 ≤ 1114111)) then (c % 16 * 4096 + d % 64 * 64 + e % 64, 3) else (65533, 1)
  else if c / 8 = 30 ∧ p1 = true ∧ d / 64 = 2 ∧ p2 = true ∧ e / 64 = 2 ∧ p3 = true ∧ f / 64 = 2 then
    if 65536 ≤ c % 8 * 262144 + d % 64 * 4096 + e % 64 * 64 + f % 64 ∧ (c % 8 * 262144 + d % 64 * 4096 + e % 64 * 64 + f % 64 < 55296 ∨ (57344 ≤ c % 8 * 262144 + d % 64 * 4096 + e % 64 * 64 + f % 64 ∧ c % 8 * 262144 + d % 64 * 4096 + e % 64 * 64 + f % 64 ≤ 1114111)) then (c % 8 * 262144 + d % 64 * 4096 + e % 64 * 64 + f % 64, 4) else (65533, 1)
  else (65533, 1)

theorem dec_is (s : ByteArray) (i : Nat) : Utf8.decode s i = decP (byteAt s i) (byteAt s (i + 1)) (byteAt s (i + 2)) (byteAt s (i + 3)) (decide (i + 1 < s.size)) (decide (i + 2 < s.size)) (decide (i + 3 < s.size)) := by
  unfold Utf8.decode decP Utf8.valid Utf8.runeError
  simp only [show ∀ k, (s.get! k).toNat = byteAt s k from fun _ => rfl, Nat.add_zero, Bool.and_eq_true, beq_iff_eq, decide_eq_true_eq, Bool.or_eq_true, ge_iff_le, and_assoc]
  have z : ∀ n : Nat, (0 : Int) ≤ n := fun n => by omega
  have z1 : ∀ n : Nat, ((n : Int) < 55296) = (n < 55296) := fun n => propext ⟨fun h => by omega, fun h => by omega⟩
  have z2 : ∀ n : Nat, ((57344 : Int) ≤ n) = (57344 ≤ n) := fun n => propext ⟨fun h => by omega, fun h => by omega⟩
  have z3 : ∀ n : Nat, ((n : Int) ≤ 1114111) = (n ≤ 1114111) := fun n => propext ⟨fun h => by omega, fun h => by omega⟩
  simp only [z, true_and, z1, z2, z3]

set_option maxHeartbeats 4000000 in
theorem first_is (s : ByteArray) (i : Nat) : firstRef s i = (decR s i, decN s i) := by
  have b0 := byteAt_lt s i
  have b1 := byteAt_lt s (i + 1)
  have b2 := byteAt_lt s (i + 2)
  have b3 := byteAt_lt s (i + 3)
  unfold firstRef decR decN tailB
  rw [dec_is]
  generalize byteAt s i = c at *
  generalize byteAt s (i + 1) = d at *
  generalize byteAt s (i + 2) = e at *
  generalize byteAt s (i + 3) = f at *
  generalize decide (i + 1 < s.size) = p1
  generalize decide (i + 2 < s.size) = p2
  generalize decide (i + 3 < s.size) = p3
  have dd : d / 64 = 2 ↔ (128 ≤ d ∧ d ≤ 191) := by omega
  have de : e / 64 = 2 ↔ (128 ≤ e ∧ e ≤ 191) := by omega
  have df : f / 64 = 2 ↔ (128 ≤ f ∧ f ≤ 191) := by omega
  unfold decP
  simp only [dd, de, df]
  clear dd de df
  rcases (show c < 128 ∨ (128 ≤ c ∧ c < 192) ∨ (192 ≤ c ∧ c < 194) ∨ (194 ≤ c ∧ c ≤ 223) ∨ c = 224 ∨ (225 ≤ c ∧ c ≤ 236) ∨ c = 237 ∨ (238 ≤ c ∧ c ≤ 239) ∨ c = 240 ∨ (241 ≤ c ∧ c ≤ 243) ∨ c = 244 ∨ (245 ≤ c ∧ c ≤ 247) ∨ 248 ≤ c by omega) with h | h | h | h | h | h | h | h | h | h | h | h | h
  · simp [h]; omega
  all_goals
    have q0 : ¬ c < 128 := by omega
    first | (have q1 : c / 32 = 6 := by omega) | (have q1 : ¬ c / 32 = 6 := by omega)
    first | (have q2 : c / 16 = 14 := by omega) | (have q2 : ¬ c / 16 = 14 := by omega)
    first | (have q3 : c / 8 = 30 := by omega) | (have q3 : ¬ c / 8 = 30 := by omega)
    first | (have q4 : 194 ≤ c := by omega) | (have q4 : ¬ 194 ≤ c := by omega)
    first | (have q5 : c ≤ 223 := by omega) | (have q5 : ¬ c ≤ 223 := by omega)
    first | (have q6 : c = 240 := by omega) | (have q6 : ¬ c = 240 := by omega)
    first | (have q7 : c = 224 := by omega) | (have q7 : ¬ c = 224 := by omega)
    first | (have q8 : c = 244 := by omega) | (have q8 : ¬ c = 244 := by omega)
    first | (have q9 : c = 237 := by omega) | (have q9 : ¬ c = 237 := by omega)
    first | (have qa : 224 ≤ c := by omega) | (have qa : ¬ 224 ≤ c := by omega)
    first | (have qb : c ≤ 239 := by omega) | (have qb : ¬ c ≤ 239 := by omega)
    first | (have qc : 240 ≤ c := by omega) | (have qc : ¬ 240 ≤ c := by omega)
    first | (have qd : c ≤ 244 := by omega) | (have qd : ¬ c ≤ 244 := by omega)
    simp only [q0, q1, q2, q3, q4, q5, q6, q7, q8, q9, qa, qb, qc, qd, if_false, if_true, true_and, and_true, false_and, and_false]
    clear q0 q1 q2 q3 q4 q5 q6 q7 q8 q9 qa qb qc qd
  all_goals
    by_cases hd1 : 128 ≤ d <;> by_cases hd2 : d ≤ 191 <;> by_cases he1 : 128 ≤ e <;> by_cases he2 : e ≤ 191 <;> cases p1 <;> cases p2 <;> simp only [hd1, hd2, he1, he2, if_false, true_and, and_true, false_and, and_false, decide_true, decide_false, Bool.and_true, Bool.and_false, Bool.true_and, Bool.false_and, true_or, or_true, reduceCtorEq, Bool.false_eq_true, or_self, if_pos]
  all_goals (repeat' split)
  all_goals first
    | (exfalso; omega)
    | (refine Prod.ext ?_ ?_ <;> (dsimp only; omega))
    | (simp_all; done)
    | (simp_all; omega)

end Go.Proofs.YthhjepgcbfmfeaaGreatDoor

namespace Go.Proofs.YthhjepgcbfmfeaaGreatDoor
open Go.RowKit

theorem tail_lt {s : ByteArray} {i a b : Nat} (h : tailB s i a b = true) : i < s.size := by
  unfold tailB at h; simp at h; exact h.1
theorem ret_two {a b c d : Int} (h1 : a = c) (h2 : b = d) : Ending.returned (.tuple #[.int .i64 a, .int .i64 b]) = .returned (.tuple #[.int .i64 c, .int .i64 d]) := by rw [h1, h2]

end Go.Proofs.YthhjepgcbfmfeaaGreatDoor

namespace Go.Proofs.YthhjepgcbfmfeaaGreatDoor
open Go.RowKit

theorem end_list (s : ByteArray) (l : List Rn) (x : Rn) (h : allR s = l ++ [x]) : endL s = nextLine x.r x.line ∧ endC s = nextCol x.r x.col := by
  have key : ∀ k p line col l x, runesAt (decR s) s k p line col = l ++ [x] → s.size ≤ p + k → endAt s k p line col = (nextLine x.r x.line, nextCol x.r x.col) := by
    intro k
    induction k with
    | zero => intro p line col l x h _; simp [runesAt] at h
    | succ k ih =>
      intro p line col l x h hk
      simp only [runesAt] at h
      rw [endAt]
      by_cases hp : p < s.size
      · have hd := decN_pos s p
        rw [if_pos hp] at h ⊢
        cases l with
        | nil =>
          simp only [List.nil_append, List.cons.injEq] at h
          obtain ⟨rfl, h2⟩ := h
          by_cases hq : p + decN s p < s.size
          · obtain ⟨j, hj⟩ : ∃ j, k = j + 1 := ⟨k - 1, by omega⟩
            subst hj
            simp only [runesAt] at h2
            rw [if_pos hq] at h2; cases h2
          · cases k with
            | zero => rfl
            | succ j => rw [endAt, if_neg hq]
        | cons y l =>
          simp only [List.cons_append, List.cons.injEq] at h
          exact ih _ _ _ l x h.2 (by omega)
      · rw [if_neg hp] at h; simp at h
  have := key (s.size - 0) 0 1 1 l x h (by omega)
  unfold endL endC endP
  rw [this]; exact ⟨rfl, rfl⟩

theorem end_nil (s : ByteArray) (h : allR s = []) : endL s = 1 ∧ endC s = 1 := by
  have hz : ¬ 0 < s.size := by
    intro hp
    unfold allR at h
    rw [restG_cons _ _ _ _ _ hp] at h; cases h
  unfold endL endC
  rw [endP_end s 0 1 1 hz]; exact ⟨rfl, rfl⟩

theorem PosAt.storedCol {w : World} {b : Nat} {t : TypeId} {line col : Int} (h : PosAt w b t line col) (c' : Int) : PosAt (w.setCell ⟨b, 1, none⟩ (.int .i64 c')) b t line c' := heap_setCell_same w b 1 _ t (.int .i64 c') h
theorem PosAt.past {w : World} {b : Nat} {t : TypeId} {line col : Int} (h : PosAt w b t line col) {p : Addr} (hne : b ≠ p.block) (u : Value) : PosAt (w.setCell p u) b t line col := (Below.heap_setCell w p u b hne).trans h
theorem cell_past {w : World} {p : Addr} {u v : Value} {g j : Nat} (h : w.cell? ⟨g, j, none⟩ = some v) (hne : g ≠ p.block) : (w.setCell p u).cell? ⟨g, j, none⟩ = some v :=
  (World.cell?_of_block (a := ⟨g, j, none⟩) (Below.heap_setCell w p u g hne)).trans h

theorem runesAt_bd (g : Nat → Int) (s : ByteArray) (k p : Nat) (line col : Int) (a : 0 ≤ line ∧ line ≤ p + 1 ∧ 0 ≤ col ∧ col ≤ p + 1) (y : Rn) (h : y ∈ runesAt g s k p line col) : 0 ≤ y.line ∧ y.line ≤ s.size + 1 ∧ 0 ≤ y.col ∧ y.col ≤ s.size + 1 := by
  induction k generalizing p line col with
  | zero => simp [runesAt] at h
  | succ k ih =>
    simp only [runesAt] at h
    split at h
    · rename_i hp
      rcases List.mem_cons.1 h with rfl | h
      · obtain ⟨a1, a2, a3, a4⟩ := a
        exact ⟨a1, by show line ≤ _; omega, a3, by show col ≤ _; omega⟩
      · exact ih _ _ _ (next_bd _ _ _ _ _ (decN_pos s p) a) h
    · simp at h
theorem allR_bd (s : ByteArray) (y : Rn) (h : y ∈ allR s) : 0 ≤ y.line ∧ y.line ≤ s.size + 1 ∧ 0 ≤ y.col ∧ y.col ≤ s.size + 1 := runesAt_bd _ _ _ _ _ _ (by omega) _ h

end Go.Proofs.YthhjepgcbfmfeaaGreatDoor

namespace Go.Proofs.YthhjepgcbfmfeaaGreatDoor
open Go.RowKit

theorem innerB_cases (c : Int) : (innerB c = true ∧ smallB c = true) ∨ (innerB c = true ∧ smallB c = false ∧ greatB c = true) ∨ (innerB c = true ∧ smallB c = false ∧ greatB c = false ∧ digitB c = true) ∨
    (smallB c = false ∧ greatB c = false ∧ digitB c = false ∧ innerB c = (c == 95)) := by
  unfold innerB letterB
  cases smallB c <;> cases greatB c <;> cases digitB c <;> simp <;> rfl

end Go.Proofs.YthhjepgcbfmfeaaGreatDoor

namespace Go.Proofs.YthhjepgcbfmfeaaGreatDoor
open Go.RowKit

/-- how many runes the sign has that begins with c, d behind it -/
def signN (c d : Int) : Nat :=
  if (c = 60 ∨ c = 62 ∨ c = 33) ∧ d = 61 then 2
  else if c = 60 ∨ c = 62 ∨ c = 61 ∨ c = 40 ∨ c = 41 ∨ c = 91 ∨ c = 93 ∨ c = 44 ∨ c = 59 then 1 else 0

/-- is a great letter in a text? -/
def hasGreatB (s : ByteArray) : Bool := s.data.toList.any fun b => greatB (b.toNat : Int)

end Go.Proofs.YthhjepgcbfmfeaaGreatDoor

namespace Go.Proofs.YthhjepgcbfmfeaaGreatDoor
open Go.RowKit

def stepV (n : Nat) (b : UInt8) : Nat := if b.toNat = 45 then n else n * 10 + (b.toNat - 48)

def numV (l : List UInt8) : Nat := l.foldl stepV 0

theorem numV_snoc (l : List UInt8) (b : UInt8) : numV (l ++ [b]) = stepV (numV l) b := by simp [numV]

theorem stepV_ge (n : Nat) (b : UInt8) : n ≤ stepV n b := by unfold stepV; split <;> omega

theorem foldV_ge (l : List UInt8) (n : Nat) : n ≤ l.foldl stepV n := by
  induction l generalizing n with
  | nil => exact Nat.le_refl _
  | cons b t ih => exact Nat.le_trans (stepV_ge n b) (ih _)

theorem numV_take (l : List UInt8) (k : Nat) : numV (l.take k) ≤ numV l := by
  have h : numV l = (l.drop k).foldl stepV (numV (l.take k)) := by
    unfold numV
    rw [← List.foldl_append, List.take_append_drop]
  rw [h]; exact foldV_ge _ _

theorem numV_next (s : ByteArray) (k : Nat) (h : k < s.size) : numV (s.data.toList.take (k + 1)) = stepV (numV (s.data.toList.take k)) (s[k]'h) := by
  have e1 : s.data.toList.take (k + 1) = s.data.toList.take k ++ [s[k]'h] := by rw [List.take_succ_eq_append_getElem (by simpa using h)]; rfl
  rw [e1, numV_snoc]

/-- bytes that are digits, or - -/
def NumT (s : ByteArray) : Prop := ∀ (k : Nat) (h : k < s.size), (s[k]'h).toNat = 45 ∨ (48 ≤ (s[k]'h).toNat ∧ (s[k]'h).toNat ≤ 57)

/-- what value answers: the number, and whether it is within 64 bits -/
def valN (s : ByteArray) (below : Bool) : Int × Bool :=
  if below then (if numV s.data.toList ≤ 9223372036854775808 then (-(numV s.data.toList : Int), true) else (0, false))
  else (if numV s.data.toList ≤ 9223372036854775807 then ((numV s.data.toList : Int), true) else (0, false))

end Go.Proofs.YthhjepgcbfmfeaaGreatDoor

namespace Go.Proofs.YthhjepgcbfmfeaaGreatDoor
open Go.RowKit

theorem ret_val {a c : Int} {b d : Bool} (h1 : a = c) (h2 : b = d) : Ending.returned (.tuple #[.int .i64 a, .bool b]) = .returned (.tuple #[.int .i64 c, .bool d]) := by rw [h1, h2]

end Go.Proofs.YthhjepgcbfmfeaaGreatDoor

namespace Go.Proofs.YthhjepgcbfmfeaaGreatDoor
open Go.RowKit

/-- the language's words -/
def wordsB : List ByteArray :=
  [{ data := #[97, 116, 116, 114] },
   { data := #[117, 115, 101, 114] },
   { data := #[114, 111, 108, 101] },
   { data := #[115, 116, 97, 103, 101] },
   { data := #[105, 110] },
   { data := #[101, 118, 101, 110, 116] },
   { data := #[98, 121] },
   { data := #[115, 101, 116, 115] },
   { data := #[109, 97, 120] },
   { data := #[111, 110] },
   { data := #[105, 102] },
   { data := #[103, 117, 97, 114, 100] },
   { data := #[109, 105, 108, 101, 115, 116, 111, 110, 101] },
   { data := #[111, 102] },
   { data := #[102, 105, 110, 97, 108] },
   { data := #[115, 111, 100] },
   { data := #[97, 110, 100] },
   { data := #[111, 114] },
   { data := #[110, 111, 116] },
   { data := #[105, 109, 112, 108, 105, 101, 115] },
   { data := #[111, 112, 101, 110] },
   { data := #[100, 111, 110, 101] },
   { data := #[99, 97, 110] },
   { data := #[100, 105, 100] },
   { data := #[99, 111, 109, 112, 108, 101, 116, 101] },
   { data := #[115, 116, 117, 99, 107] },
   { data := #[116, 114, 117, 101] },
   { data := #[102, 97, 108, 115, 101] },
   { data := #[105, 100, 108, 101] },
   { data := #[108, 111, 111, 112] },
   { data := #[65, 88] },
   { data := #[69, 88] },
   { data := #[65, 70] },
   { data := #[69, 70] },
   { data := #[65, 71] },
   { data := #[69, 71] },
   { data := #[65] },
   { data := #[69] },
   { data := #[85] }]

/-- is a text a word of the language? -/
def knownB (s : ByteArray) : Bool := wordsB.any (fun x => decide (x = s))

theorem cells_lit (w : World) (us : Array Value) (e : TypeId) (t : Nat) (x : Value) (h : us.toList[t]? = some x) : (w.alloc (.cells us e)).cell? ⟨w.heap.size, 0 + t, none⟩ = some x := by
  rw [World.cell?_alloc_at _ _ _ _ rfl, Nat.zero_add]
  simpa using h

theorem beq_bytes (x s : ByteArray) : (x.toList == s.toList) = decide (x = s) := by
  rw [ByteArray.toList_eq, ByteArray.toList_eq, Bool.eq_iff_iff, beq_iff_eq, decide_eq_true_iff]
  constructor
  · intro h
    exact ByteArray.ext (Array.ext' h)
  · rintro rfl
    rfl

theorem words_len : wordsB.length = 39 := rfl

end Go.Proofs.YthhjepgcbfmfeaaGreatDoor

namespace Go.Proofs.YthhjepgcbfmfeaaGreatDoor
open Go.RowKit

theorem bytes_cons (s : ByteArray) (h0 : 0 < s.size) : s.data.toList = s[0]'h0 :: s.data.toList.drop 1 := by
  have h : 0 < s.data.toList.length := by simpa using h0
  rw [List.drop_one]
  exact (List.cons_head_tail (List.ne_nil_of_length_pos h)).symm.trans (by rw [List.head_eq_getElem]; rfl)

theorem dash_is (s : ByteArray) (h0 : 0 < s.size) : ((s.extract 0 1).toList == [45]) = decide ((s[0]'h0).toNat = 45) := by
  rw [show ([45] : List UInt8) = (⟨#[45]⟩ : ByteArray).toList by rw [ByteArray.toList_eq], beq_bytes, Bool.eq_iff_iff, decide_eq_true_iff, decide_eq_true_iff]
  have h1 : (s.extract 0 1).data.toList = [s[0]'h0] := by rw [Lib.extract_data, List.drop_zero, bytes_cons s h0]; rfl
  constructor
  · intro h
    have : [s[0]'h0] = [45] := by rw [← h1, h]
    rw [List.cons.inj this |>.1]; rfl
  · intro h
    refine ByteArray.ext (Array.ext' ?_)
    rw [h1]
    have : s[0]'h0 = 45 := UInt8.toNat_inj.1 h
    rw [this]

set_option maxHeartbeats 1000000 in
theorem dash_any (s : ByteArray) (h0 : 0 < s.size) (w : World) (hs : s.size ≤ 4294967296) :
    Calls Tryz.prog 109 #[.string s, .string ⟨#[45]⟩] w fun e w' => e = .returned (.bool (decide ((s[0]'h0).toNat = 45))) ∧ w = w' := by
  have HD := Lib.hid (dash_is s h0)
  go_enter Tryz.func109, Tryz.ntmps109
  go_wp2
  go_ret
  exact ⟨ret_bool HD.out, rfl⟩

/-- the text without its - -/
def noDash (s : ByteArray) (below : Bool) : ByteArray := if below then s.extract 1 s.size else s

set_option maxHeartbeats 1000000 in
theorem trimS_any (s : ByteArray) (h0 : 0 < s.size) (w : World) (hs : s.size ≤ 4294967296) :
    Calls Tryz.prog 95 #[.string s, .string ⟨#[45]⟩] w fun e w' => e = .returned (.string (noDash s (decide ((s[0]'h0).toNat = 45)))) ∧ w = w' := by
  cases hb : decide ((s[0]'h0).toNat = 45)
  · go_enter Tryz.func95, Tryz.ntmps95
    go_wp2_with fail
    refine (dash_any s h0 _ hs).mono ?_
    rintro e w' ⟨rfl, rfl⟩
    rw [hb]
    go_wp2
    go_ret
    exact ⟨rfl, rfl⟩
  · go_enter Tryz.func95, Tryz.ntmps95
    go_wp2_with fail
    refine (dash_any s h0 _ hs).mono ?_
    rintro e w' ⟨rfl, rfl⟩
    rw [hb]
    go_wp2
    go_ret
    exact ⟨rfl, rfl⟩

set_option maxHeartbeats 1000000 in
theorem trim_any (s : ByteArray) (h0 : 0 < s.size) (w : World) (hs : s.size ≤ 4294967296) :
    Calls Tryz.prog 79 #[.string s, .string ⟨#[45]⟩] w fun e w' => e = .returned (.string (noDash s (decide ((s[0]'h0).toNat = 45)))) ∧ w = w' := by
  go_enter Tryz.func79, Tryz.ntmps79
  go_wp2_with fail
  refine (trimS_any s h0 _ hs).mono ?_
  rintro e w' ⟨rfl, rfl⟩
  go_wp2
  go_ret
  exact ⟨rfl, rfl⟩

end Go.Proofs.YthhjepgcbfmfeaaGreatDoor
