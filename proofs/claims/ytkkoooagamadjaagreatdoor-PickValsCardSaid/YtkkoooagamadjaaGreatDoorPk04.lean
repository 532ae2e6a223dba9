/- Splits of package halve. -/
import Derived.Test.YtkkoooagamadjaaGreatDoorPk03

namespace Go.Proofs.YtkkoooagamadjaaGreatDoor
open Go.RowKit Go.Shelf
open Go.ChangeMaps (setBlock heap_setBlock_same heap_setBlock_other frozen?_setBlock)
attribute [local go_sem] Oper.semAt_some

theorem capIn : ∀ m r W, CallsIn Fence.wide m Tryz.prog 19 #[.int .i64 r] W fun e w' => e = .returned (.int .i64 (kap r)) ∧ W = w' := fun _ r W => callsIn_wide.2 (cap_any r W)
theorem clipIn (m : Nat) (g r : Int) (W : World) : CallsIn Fence.wide m Tryz.prog 112 #[.int .i64 g, .int .i64 r] W fun e w' => e = .returned (.int .i64 (klip g r)) ∧ W = w' := callsIn_wide.2 (clip_any g r W)

/-- the cells of pairs -/
def cellsP (l : List (Int × Int)) : List Value := l.flatMap fun p => [.int .i64 p.1, .int .i64 p.2]
theorem cellsP_len (l : List (Int × Int)) : (cellsP l).length = l.length * 2 := by
  induction l with
  | nil => rfl
  | cons p r ih => simp only [cellsP, List.flatMap_cons, List.length_append, List.length_cons, List.length_nil] at *; omega
theorem cellsP_snoc (l : List (Int × Int)) (p : Int × Int) : cellsP (l ++ [p]) = cellsP l ++ [.int .i64 p.1, .int .i64 p.2] := by simp [cellsP]

/-- each pair at its first place -/
def firstsP (l : List (Int × Int)) : List (Int × Int) := l.foldl (fun a p => if p ∈ a then a else a ++ [p]) []
theorem firstsP_snoc (l : List (Int × Int)) (p : Int × Int) : firstsP (l ++ [p]) = if p ∈ firstsP l then firstsP l else firstsP l ++ [p] := by unfold firstsP; rw [List.foldl_append]; rfl
theorem snoc_ind {α : Type} {P : List α → Prop} (h0 : P []) (h1 : ∀ l a, P l → P (l ++ [a])) (l : List α) : P l := by
  have : ∀ r : List α, P r.reverse := fun r => by
    induction r with
    | nil => exact h0
    | cons a r ih => rw [List.reverse_cons]; exact h1 _ _ ih
  simpa using this l.reverse
theorem firstsP_mem (l : List (Int × Int)) : ∀ x, x ∈ firstsP l ↔ x ∈ l := by
  induction l using snoc_ind with
  | h0 => intro x; simp [firstsP]
  | h1 l p ih =>
    intro x
    rw [firstsP_snoc]
    split
    · rename_i h
      rw [ih x]; simp only [List.mem_append, List.mem_singleton]
      constructor
      · exact .inl
      · rintro (h1 | rfl)
        · exact h1
        · exact (ih _).1 h
    · simp [ih x]
theorem firstsP_nodup (l : List (Int × Int)) : (firstsP l).Nodup := by
  induction l using snoc_ind with
  | h0 => simp [firstsP]
  | h1 l p ih =>
    rw [firstsP_snoc]; split
    · exact ih
    · rename_i h
      exact List.nodup_append.2 ⟨ih, by simp, fun a ha b hb e => by simp at hb; subst hb; subst e; exact h ha⟩
theorem firstsP_len (l : List (Int × Int)) : (firstsP l).length ≤ l.length := by
  induction l using snoc_ind with
  | h0 => simp [firstsP]
  | h1 l p ih => rw [firstsP_snoc]; split <;> simp <;> omega
theorem firstsP_old (pre : List (Int × Int)) (x : Int × Int) (h : cntP pre x ≠ 0) : firstsP (pre ++ [x]) = firstsP pre := by
  rw [firstsP_snoc, if_pos]; rw [firstsP_mem]; by_cases hx : x ∈ pre
  · exact hx
  · exact absurd ((cntP_zero _ _).2 hx) h
theorem firstsP_new (pre : List (Int × Int)) (x : Int × Int) (h : cntP pre x = 0) : firstsP (pre ++ [x]) = firstsP pre ++ [x] := by
  rw [firstsP_snoc, if_neg]; rw [firstsP_mem]; exact (cntP_zero _ _).1 h

theorem info_pair : (Tryz.prog.info? 98).map (fun i => (i.zero, i.size, i.bytes)) = some (some (.agg #[.int .i64 0, .int .i64 0]), 2, 16) := by kernel_rfl

/-- between two rounds -/
structure Mid (w : World) (pre : List (Int × Int)) (v : Value) (es : Array MapEntry) (clock : Nat) (W : World) : Prop where
  box : Boxed W w.heap.size 96 v
  own : W.ownsRow w.heap.size 98 2 v (firstsP pre).length (cellsP (firstsP pre))
  map : W.heap[w.heap.size + 1]? = some (.map es clock)
  mbox : Boxed W (w.heap.size + 2) 135 (.map (some (w.heap.size + 1)))
  seen : SeenArr es clock pre
  below : Below w.heap.size w W

theorem Mid.grown {w W W' : World} {pre : List (Int × Int)} {v : Value} {es : Array MapEntry} {clock : Nat} {row : Option Nat} (h : Mid w pre v es clock W) (hg : W.grownBy W' row) (hr : ∀ r, row = some r → w.heap.size + 3 ≤ r ∧ v.ownBlock ≠ some r) : Mid w pre v es clock W' := by
  have h1 : ∀ k, k < w.heap.size + 3 → some k ≠ row := fun k hk e => by have := (hr k e.symm).1; omega
  have hlt : w.heap.size + 1 < W.heap.size := (Array.getElem?_eq_some_iff.1 h.map).1
  refine ⟨h.box.kept hg (h1 _ (by omega)), h.own.kept hg ?_, (hg.block _ hlt (h1 _ (by omega))).trans h.map, h.mbox.kept hg (h1 _ (by omega)), h.seen, ?_⟩
  · cases hv : v.ownBlock with
    | none => exact .inl rfl
    | some k => exact .inr fun e => (hr k e.symm).2 hv
  · exact h.below.grown hg h.below.size (fun k e => by have := (hr k e).1; omega)

/-- the append law of a walk under a fence, that tells where the new slice lies -/
theorem appendIn_at {F : Fence} {n : Nat} {P : Program} (w : World) {ops : Array Oper} {rest : List Oper} {o : Oper} {a : Act} {Q : Exit → Act → World → Prop}
    (hg : o.guard = none) (s x : Operand) (t : TypeId) (hop : o.op = Op.call { callee := Callee.builtin Builtin.append, args := #[s, x], argTypes := #[t, t] })
    (base : Nat) (e : TypeId) (i : TypeInfo) (z : Value) (size bytes : Nat) (h1 : P.underlying t = some (.slice e)) (h2 : P.info? e = some i) (h3 : i.zero = some z) (h4 : i.size = size) (h5 : i.bytes = bytes) (h6 : z.cells.size = size) (h7 : 0 < size)
    (v : Value) (k : Nat) (xs : List Value) (hs : a.eval s = v) (hown : w.ownsRow base e size v k xs) (ad : Addr) (m c : Nat) (news : List Value) (hx : a.eval x = .slice (some ad) m c) (hn : news.length = m * size)
    (hc : ∀ j u, news[j]? = some u → w.cell? (ad.add j) = some u) (h1c : ∀ u ∈ news, u.oneCell' = true) (b1 : k + m ≤ maxLen) (b2 : (k + m) * bytes ≤ 140737488355328) (b3 : base ≤ w.heap.size)
    (hK : ∀ v' w', w'.ownsRow base e size v' (k + m) (xs ++ news) → w.grownBy w' v.ownBlock → (v'.ownBlock = v.ownBlock ∨ v'.ownBlock = some w.heap.size) → wpListIn F n P ops Q rest (a.put o.dst v') w') :
    wpListIn F n P ops Q (o :: rest) a w := by
  refine wpListIn_plain hg fun K hK' => ?_
  obtain ⟨v', w', hrun, r1, r2, _, r4⟩ := run_append_own_at (P := P) w base t o.type e i z size bytes h1 h2 h3 h4 h5 h6 h7 v k xs hown ad m c news hn hc h1c b1 b2 b3
  unfold Oper.wpIn
  refine ⟨?_, ?_⟩
  · simp [Oper.about, hop, resolve, Target.leads, Sem.run_pure]
  · rw [Oper.semAt_plain F _ _ (by rw [hop]; intro c hc'; cases hc')]
    simp [execOp, hop, resolve, invoke, builtin, hs, hx, hrun, Result.andThen]
    exact hK' _ _ (hK v' w' r1 r2 r4)

theorem own_not_map {W : World} {base k : Nat} {e : TypeId} {size n : Nat} {v : Value} {xs : List Value} {es : Array MapEntry} {clock : Nat} (h : W.ownsRow base e size v n xs) (hm : W.heap[k]? = some (.map es clock)) : v.ownBlock ≠ some k := by
  rcases h.2 with ⟨rfl, _⟩ | ⟨g, cap, cur, rfl, _, hg, _⟩
  · simp [Value.ownBlock]
  · intro e'
    obtain rfl : g = k := by simpa [Value.ownBlock] using e'
    rw [hg] at hm; cases hm

theorem Harb.of_grown {D : Nat → Prop} {bo : Nat} {W W' : World} {row : Option Nat} (hg : W.grownBy W' row) (hb : bo < W.heap.size) (h1 : row ≠ some bo) (h2 : ∀ r, row = some r → ¬ D r) : Harb D bo W W' :=
  ⟨hg.size, fun k hk hl hf => ⟨hg.block k hl (fun e => h2 k e.symm hk), hf.grown hg hb h1⟩⟩

/-- behind an append to the boxed slice -/
theorem Mid.app {w W W1 : World} {pre : List (Int × Int)} {v v' : Value} {x : Int × Int} (hbox : Boxed W w.heap.size 96 v) (hrow : W.ownsRow w.heap.size 98 2 v (firstsP pre).length (cellsP (firstsP pre))) (hmb : Boxed W (w.heap.size + 2) 135 (.map (some (w.heap.size + 1)))) (hbl : Below w.heap.size w W) {es2 : Array MapEntry} {ck2 : Nat} (hS : SeenArr es2 ck2 (pre ++ [x])) (hmap : W.heap[w.heap.size + 1]? = some (.map es2 ck2)) (hnew : firstsP (pre ++ [x]) = firstsP pre ++ [x])
    {tmp : Obj} (hown : W1.ownsRow w.heap.size 98 2 v' ((firstsP pre).length + 1) (cellsP (firstsP pre) ++ [.int .i64 x.1, .int .i64 x.2])) (hg : (W.alloc tmp).grownBy W1 v.ownBlock) (hat : v'.ownBlock = v.ownBlock ∨ v'.ownBlock = some (W.alloc tmp).heap.size) :
    Boxed W1 w.heap.size 96 v ∧ Mid w (pre ++ [x]) v' es2 ck2 (W1.setCell ⟨w.heap.size, 0, none⟩ v') ∧ Harb (fun k => w.heap.size + 3 ≤ k) w.heap.size W (W1.setCell ⟨w.heap.size, 0, none⟩ v') := by
  obtain ⟨b1, b2, o2, _, bl⟩ := hbox.appended (by decide) hrow hbl.size (Nat.le_refl _) hown hg
  have hmlt : w.heap.size + 1 < W.heap.size := (Array.getElem?_eq_some_iff.1 hmap).1
  have hvm : v.ownBlock ≠ some (w.heap.size + 1) := own_not_map hrow hmap
  have hvb : v.ownBlock ≠ some (w.heap.size + 2) := fun e => hmb.not_row (by decide) hrow e.symm
  have s1 : ∀ k, k < W.heap.size → v.ownBlock ≠ some k → k ≠ w.heap.size → (W1.setCell ⟨w.heap.size, 0, none⟩ v').heap[k]? = W.heap[k]? := fun k hk hv hne => by
    rw [Below.heap_setCell _ _ _ k hne, hg.block k (by simp; omega) (fun e => hv e.symm)]
    exact Below.heap_alloc W tmp k hk
  refine ⟨b1, ⟨b2, ?_, (s1 _ hmlt hvm (by omega)).trans hmap, ?_, hS, hbl.trans bl⟩, ?_⟩
  · rw [hnew, cellsP_snoc, List.length_append]; exact o2
  · exact (s1 _ hmb.lt hvb (by omega)).trans hmb
  · refine ⟨?_, fun k hk hl hf => ?_⟩
    · have h1 := hg.size; have h2 := (KeepsWalks.setCell W1 ⟨w.heap.size, 0, none⟩ v').size; simp at h1; omega
    · have hv : v.ownBlock ≠ some k := hf v hbox.cell
      refine ⟨s1 k hl hv (by omega), fun u hu => ?_⟩
      rw [b2.cell] at hu
      cases hu
      rcases hat with e | e
      · rw [e]; exact hv
      · rw [e]; simp; omega

/-- the frame of a round of Splits behind the count -/
def frE (n0 : Nat) (g r m c : Int) (x : Int × Int) (q st : Int) (v0 : Value) : Array Value :=
  #[.int .i64 g, .int .i64 r, undef, undef, .slice none 0 0, .pointer (some ⟨n0, 0, none⟩), .pointer (some ⟨n0 + 1 + 1, 0, none⟩), .int .i64 x.1, .int .i64 x.2, .int .i64 r, .bool (decide (r < 1)), .bool (decide (r < 1)), .int .i64 g,
    .bool (decide (g < 1)), .bool (decide (r < 1) || decide (g < 1)), undef, .map (some (n0 + 1)), .int .i64 g, .int .i64 r, .int .i64 c, .int .i64 r, .int .i64 m,
    .func (.func 138) #[] #[.pointer (some ⟨n0 + 1 + 1 + 1 + 2, 0, none⟩), .pointer (some ⟨n0 + 1 + 1 + 1, 0, none⟩), .pointer (some ⟨n0 + 1 + 1 + 1 + 1, 0, none⟩)],
    .int .i64 x.1, .int .i64 x.2, .map (some (n0 + 1)), .int .i64 x.1, .int .i64 x.2, .agg #[.int .i64 x.1, .int .i64 x.2], .int .i64 q, .int .i64 (q + 1), .tuple #[v0, .int .i64 st], .int .i64 st,
    undef, undef, undef, undef, undef, undef, undef, undef, undef, undef, undef, undef, undef, undef, undef]

def SortP (l l' : List (Int × Int)) : Prop := l'.Perm l ∧ l'.Pairwise fun a b => a.1 < b.1 ∨ (a.1 = b.1 ∧ a.2 ≤ b.2)

theorem setBlock_grown {w : World} {b : Nat} {es es' : Array MapEntry} {clock clock' : Nat} (hb : w.heap[b]? = some (.map es clock)) : w.grownBy (setBlock w b (.map es' clock')) (some b) :=
  ⟨rfl, rfl, rfl, by simp [setBlock], fun k _ hk => heap_setBlock_other hb _ (fun e => hk (by rw [e]))⟩

set_option maxRecDepth 10000 in
set_option maxHeartbeats 8000000 in
theorem splitsA_in (F : Fence) (hft : ∀ f, F.fn f) (hro : F.round = none) (hd : F.depth = none) (n : Nat) (hn : 6 ≤ n)
    (hcap : ∀ m r W, CallsIn F m Tryz.prog 19 #[.int .i64 r] W fun e w' => e = .returned (.int .i64 (kap r)) ∧ W = w')
    (hclip : ∀ m g r W, CallsIn F m Tryz.prog 112 #[.int .i64 g, .int .i64 r] W fun e w' => e = .returned (.int .i64 (klip g r)) ∧ W = w')
    (g r : Int) (w : World) (hr : 1 ≤ r) (hr2 : r ≤ 9223372036854775807) (hg : 1 ≤ g) (hrr : r ≤ 20) (c h kr : Nat) (hc : klip g r = c) (hh : kap (r - 1) = h) (hkr : kap r = kr) (hh2 : h ≤ 1048575) (hc2 : c ≤ 2097151)
    (xs : List (Int × Int)) (hxs : xs = adj (rawP c h (!decide (c < kr)))) (hlen : xs.length ≤ 8388608) (hok : ∀ p ∈ xs, okP p)
    (hsort : ∀ m v l W, W.ownsRow w.heap.size 98 2 v l.length (cellsP l) → l.length ≤ 8388608 → CallsIn F m Tryz.prog 113 #[v] W fun e W' => e = .returned (.tuple #[]) ∧ ∃ l', SortP l l' ∧ W'.ownsRow w.heap.size 98 2 v l.length (cellsP l') ∧ W.grownBy W' v.ownBlock) :
    CallsIn F n Tryz.prog 84 #[.int .i64 g, .int .i64 r] w fun e w' => ∃ v l', e = .returned v ∧ SortP (firstsP xs) l' ∧ w'.ownsRow w.heap.size 98 2 v (firstsP xs).length (cellsP l') ∧ Below w.heap.size w w' := by
  have hf0 := hft 84
  have hf1 := hft 111
  have hf2 := hft 112
  have hf3 := hft 113
  have h1n : 1 ≤ n := by omega
  have h1n1 : 1 ≤ n - 1 - 1 := by omega
  have hmm := @run_makeMap Tryz.prog
  obtain ⟨i0, hi, hz0, hz1, hz2⟩ := info_parts info_pair
  have HT := Lib.hid hft
  clear hft
  have HXS := Lib.hid hxs
  clear hxs
  refine callsIn_of_wp_marks Tryz.func84 rfl hf0 ?_ hro
  simp only [Tryz.ntmps84, List.size_toArray, List.length_cons, List.length_nil, Nat.reduceAdd, Nat.reduceSub, Array.replicate_succ, Array.replicate_zero, List.push_toArray, List.append_toArray, List.nil_append, List.cons_append]
  gi_wp2_with (first
    | (gi_at_call 112; refine (hclip _ _ _ _).mono ?_; rintro e w' ⟨rfl, rfl⟩; rw [hc])
    | (gi_at_call 111; refine (splits_in F _ hf1 (HT.out _) hro (by omega) hcap _ _ (by omega) (by omega) _).mono ?_; rintro e w' ⟨rfl, rfl⟩; rw [hh]))
  have w0s : ((((((w.alloc (.cells #[.slice none 0 0] 96)).alloc (.map #[] 0)).alloc (.cells #[.map (some (w.heap.size + 1))] 135)).alloc (.cells #[.int .i64 c] 3)).alloc (.cells #[.int .i64 r] 3)).alloc (.cells #[.int .i64 h] 3)).heap.size = w.heap.size + 6 := by simp
  have m0 : Mid w [] (.slice none 0 0) #[] 0 (((w.alloc (.cells #[.slice none 0 0] 96)).alloc (.map #[] 0)).alloc (.cells #[.map (some (w.heap.size + 1))] 135)) := by
    have b1 := ((Boxed.new w 96 (.slice none 0 0)).alloc (.map #[] 0)).alloc (.cells #[.map (some (w.heap.size + 1))] 135)
    have b2 := Boxed.new ((w.alloc (.cells #[.slice none 0 0] 96)).alloc (.map #[] 0)) 135 (.map (some (w.heap.size + 1)))
    have b3 := World.alloc_heap_new (w.alloc (.cells #[.slice none 0 0] 96)) (.map #[] 0)
    simp only [World.size_alloc] at b2 b3
    refine ⟨b1, World.ownsRow_nil _ _ _ _, (Below.heap_alloc _ _ _ (by simp)).trans b3, b2, ⟨MapKept.stamped_empty 0, by simp, by simp, by simp⟩, (((Below.refl _ w).alloc (Nat.le_refl _) _).alloc (by simp) _).alloc (by simp; omega) _⟩
  have m1 : Mid w [] (.slice none 0 0) #[] 0 ((((((w.alloc (.cells #[.slice none 0 0] 96)).alloc (.map #[] 0)).alloc (.cells #[.map (some (w.heap.size + 1))] 135)).alloc (.cells #[.int .i64 c] 3)).alloc (.cells #[.int .i64 r] 3)).alloc (.cells #[.int .i64 h] 3)) :=
    ((m0.grown (World.grownBy_alloc _ _ none) (fun _ e => by cases e)).grown (World.grownBy_alloc _ _ none) (fun _ e => by cases e)).grown (World.grownBy_alloc _ _ none) (fun _ e => by cases e)
  have c1 : ((((((w.alloc (.cells #[.slice none 0 0] 96)).alloc (.map #[] 0)).alloc (.cells #[.map (some (w.heap.size + 1))] 135)).alloc (.cells #[.int .i64 c] 3)).alloc (.cells #[.int .i64 r] 3)).alloc (.cells #[.int .i64 h] 3)).cell? ⟨w.heap.size + 3, 0, none⟩ = some (.int .i64 c) := by go_simp
  have c2 : ((((((w.alloc (.cells #[.slice none 0 0] 96)).alloc (.map #[] 0)).alloc (.cells #[.map (some (w.heap.size + 1))] 135)).alloc (.cells #[.int .i64 c] 3)).alloc (.cells #[.int .i64 r] 3)).alloc (.cells #[.int .i64 h] 3)).cell? ⟨w.heap.size + 4, 0, none⟩ = some (.int .i64 r) := by go_simp
  have c3 : ((((((w.alloc (.cells #[.slice none 0 0] 96)).alloc (.map #[] 0)).alloc (.cells #[.map (some (w.heap.size + 1))] 135)).alloc (.cells #[.int .i64 c] 3)).alloc (.cells #[.int .i64 r] 3)).alloc (.cells #[.int .i64 h] 3)).cell? ⟨w.heap.size + 5, 0, none⟩ = some (.int .i64 h) := by go_simp
  obtain ⟨w0, hw0⟩ : ∃ w0, (((((w.alloc (.cells #[.slice none 0 0] 96)).alloc (.map #[] 0)).alloc (.cells #[.map (some (w.heap.size + 1))] 135)).alloc (.cells #[.int .i64 c] 3)).alloc (.cells #[.int .i64 r] 3)).alloc (.cells #[.int .i64 h] 3) = w0 := ⟨_, rfl⟩
  rw [hw0] at w0s m1 c1 c2 c3 ⊢
  clear hw0 m0
  have HS := splits_seq F (n - 1) (HT.out _) (HT.out _) (HT.out _) hro hd (by omega) hcap (B := w.heap.size + 3) (bo := w.heap.size) (bh := w.heap.size + 5) (bg := w.heap.size + 3) (br := w.heap.size + 4) w0 (by omega) (by omega) (by omega) (by omega) (by omega) (by omega) hh2 hc2 hkr c3 c1 c2
  rw [← HXS.out] at HS
  refine wpIn_rangeFunc_st hro h1n (gf := 138) (lb := #[.pointer (some ⟨w.heap.size + 5, 0, none⟩), .pointer (some ⟨w.heap.size + 3, 0, none⟩), .pointer (some ⟨w.heap.size + 4, 0, none⟩)]) rfl (HT.out _) (enters_of Tryz.func138 (by kernel_rfl) rfl)
    (w.heap.size + 3) w.heap.size HS (Below.refl _ _) (fun _ => rfl) (by omega) (by omega) ?free
    (fun pre W => ∃ v es clock, Mid w pre v es clock W) ?abides ?frees ⟨_, _, _, m1⟩ ?act ?assign ?body ?done
  case assign =>
    intro l x W K hK
    gi_wp2
    exact hK
  case free =>
    intro k _ u hu e
    rw [m1.box.cell] at hu
    cases hu
    simp [Value.ownBlock] at e
  case abides =>
    rintro s A A' row ⟨v, es, clock, m⟩ hg hr
    exact ⟨v, es, clock, m.grown hg (fun r e => ⟨by have := (hr r e).1; omega, (hr r e).2 v m.box.cell⟩)⟩
  case frees =>
    rintro s A ⟨v, es, clock, m⟩ r hr u hu e
    rw [m.box.cell] at hu
    cases hu
    have := (m.own.lt r e).2
    omega
  case body =>
    rintro l pre x W hsz ⟨v, es, clock, m⟩ hpre
    have hxm : x ∈ xs := hpre.subset (by simp)
    have hpl : pre.length + 1 ≤ xs.length := by have := hpre.length_le; simpa using this
    obtain ⟨v0, st, es1, es2, ck1, ck2, k1, k2, k3, k4, k5, hS2⟩ := seen_step (b := w.heap.size + 1) m.seen (hok x hxm)
    have hcl := cntP_le pre x
    have a0 : W.drew.heap[w.heap.size + 1]? = some (.map es clock) := m.map
    have a1 := heap_setBlock_same a0 (.map es1 ck1)
    have a2 := heap_setBlock_same a1 (.map es2 ck2)
    have hx1 : pairV x = .agg #[.int .i64 x.1, .int .i64 x.2] := rfl
    have e1 := k1 W.drew a0
    have e2 := k2 W.drew a0
    have e3 := k3 _ a1
    have e4 := k4 _ a1
    have e5 := k5 _ a2
    have g1 : W.drew.grownBy (setBlock W.drew (w.heap.size + 1) (.map es1 ck1)) (some (w.heap.size + 1)) := setBlock_grown a0
    have g2 : (setBlock W.drew (w.heap.size + 1) (.map es1 ck1)).grownBy (setBlock (setBlock W.drew (w.heap.size + 1) (.map es1 ck1)) (w.heap.size + 1) (.map es2 ck2)) (some (w.heap.size + 1)) := setBlock_grown a1
    rw [hx1] at e1 e2 e3 e5
    clear k1 k2 k3 k4 k5 hx1
    obtain ⟨W2, hW2⟩ : ∃ W2, setBlock W.drew (w.heap.size + 1) (.map es1 ck1) = W2 := ⟨_, rfl⟩
    rw [hW2] at e2 e3 e4 e5 g1 g2 a1 a2
    obtain ⟨W3, hW3⟩ : ∃ W3, setBlock W2 (w.heap.size + 1) (.map es2 ck2) = W3 := ⟨_, rfl⟩
    rw [hW3] at e4 e5 g2 a2
    clear hW2 hW3
    obtain ⟨q, hq⟩ : ∃ q : Nat, cntP pre x = q := ⟨_, rfl⟩
    rw [hq] at e1 e3 e4 e5 hcl
    have hq2 : q ≤ 8388608 := by omega
    have gd : W.grownBy W.drew none := ⟨rfl, rfl, rfl, Nat.le_refl _, fun _ _ _ => rfl⟩
    have b0 : w.heap.size < W.heap.size := m.box.lt
    have b1 : w.heap.size < W2.heap.size := Nat.lt_of_lt_of_le b0 g1.size
    have hb3 : Harb (fun k => w.heap.size + 3 ≤ k) w.heap.size W W3 :=
      (Harb.of_grown gd b0 (by simp) (fun r e => by cases e)).trans ((Harb.of_grown g1 b0 (by simp) (fun r e => by cases e; omega)).trans (Harb.of_grown g2 b1 (by simp) (fun r e => by cases e; omega)))
    have nm : v.ownBlock ≠ some (w.heap.size + 1) := own_not_map m.own m.map
    have m3 : Boxed W3 w.heap.size 96 v ∧ W3.ownsRow w.heap.size 98 2 v (firstsP pre).length (cellsP (firstsP pre)) ∧ Boxed W3 (w.heap.size + 2) 135 (.map (some (w.heap.size + 1))) ∧ Below w.heap.size w W3 :=
      ⟨((m.box.kept gd (by simp)).kept g1 (by simp)).kept g2 (by simp), ((m.own.kept gd (by cases v.ownBlock <;> simp)).kept g1 (.inr nm)).kept g2 (.inr nm), ((m.mbox.kept gd (by simp)).kept g1 (by simp)).kept g2 (by simp),
        ((m.below.grown gd m.below.size (fun r e => by cases e)).grown g1 (by have := m.below.size; exact this) (fun r e => by cases e; omega)).grown g2 (by have := m.below.size; omega) (fun r e => by cases e; omega)⟩
    obtain ⟨b3, o3, mb3, bl3⟩ := m3
    have hfl := firstsP_len pre
    have cm : W.cell? ⟨w.heap.size + 1 + 1, 0, none⟩ = some (.map (some (w.heap.size + 1))) := m.mbox.cell
    have cm3 : W3.cell? ⟨w.heap.size + 1 + 1, 0, none⟩ = some (.map (some (w.heap.size + 1))) := mb3.cell
    have co3 := b3.cell
    have cf3 := b3.frozen
    have hmx : Tryz.prog.follows .mixedOrders = true := by kernel_rfl
    have M3 : Mid w pre v es clock W3 → True := fun _ => trivial
    clear M3
    have HB3 := Lib.hid hb3
    have HS2 := Lib.hid hS2
    have HA2 := Lib.hid a2
    have HBL := Lib.hid bl3
    have HB := Lib.hid b3
    have HO := Lib.hid o3
    have HMB := Lib.hid mb3
    have HSE := Lib.hid m.seen
    clear hb3 hS2 a2 bl3 b3 o3 mb3 g1 g2 a0 a1 gd m
    have hwr : IntKind.i64.wrap ((q : Int) + 1) = (q : Int) + 1 := IntWalk.i64_in _ ⟨by omega, by omega⟩
    gi_wp2
    rename_i K aK
    have HK : K { tmps := frE w.heap.size g r r c x q st v0, defers := [] } W3 := by
      apply aK
      simp only [frE]
      by_cases hq0 : q = 0
      · have HN := Lib.hid (firstsP_new pre x (by rw [hq]; exact hq0))
        have hqt : ((q : Int) + 1 == 1) = true := by simp; omega
        clear hq hq0
        have hb1 : (firstsP pre).length + 1 ≤ maxLen := by unfold maxLen; omega
        have hb2 : ((firstsP pre).length + 1) * 16 ≤ 140737488355328 := by omega
        have hb3 : w.heap.size ≤ W3.heap.size := HBL.out.size
        gi_wp2_with (gi_at_builtin; refine appendIn_at _ rfl _ _ 96 rfl w.heap.size 98 i0 (.agg #[.int .i64 0, .int .i64 0]) 2 16 Tryz.underlying96 hi hz0 hz1 hz2 rfl (by decide) _ _ _ rfl (HO.out.alloc _) ⟨W3.heap.size, 0, none⟩ 1 1 [.int .i64 x.1, .int .i64 x.2] rfl rfl (cell_two_new _ _ _ _) (by simp [Value.oneCell']) hb1 hb2 (by simp; omega) ?_; intro v' w1 hown' hgrow hat; obtain ⟨g', cap', hv'⟩ := ownsRow_succ hown'; obtain ⟨hv1, hv2, hv3⟩ := Mid.app HB.out HO.out HMB.out HBL.out HS2.out HA2.out HN.out hown' hgrow hat; subst hv'; have hc1 := hv1.cell; have hf1 := hv1.frozen; have HV2 := Lib.hid hv2; have HV3 := Lib.hid hv3; clear hv2 hv3 hown' hgrow hat)
        exact ⟨HB3.out.trans HV3.out, _, _, _, HV2.out⟩
      · have HN := Lib.hid (firstsP_old pre x (by rw [hq]; exact hq0))
        have hqt : ((q : Int) + 1 == 1) = false := by simp; omega
        clear hq hq0
        gi_wp2
        exact ⟨HB3.out, v, es2, ck2, ⟨HB.out, by rw [HN.out]; exact HO.out, HA2.out, HMB.out, HS2.out, HBL.out⟩⟩
    clear aK
    gi_region_with_o (fail)
    all_goals exact HK
  case done =>
    rintro D W hD hfD ⟨v, es, clock, m⟩ hK
    have hfl := firstsP_len xs
    have co := m.box.cell
    have hne1 : some w.heap.size ≠ v.ownBlock := m.box.not_row (by decide) m.own
    have hne2 : v.ownBlock ≠ some D := hfD v co
    have hDl : D < W.heap.size := (Array.getElem?_eq_some_iff.1 hK).1
    have hS := Lib.hid (hsort (n - 1) v (firstsP xs) W m.own (by omega))
    have hB := Lib.hid m.box
    have hM := Lib.hid m.below
    clear m
    gi_wp2_with (gi_at_call 113; refine (hS.out).mono ?_; rintro e W4 ⟨rfl, l', hsp, hown, hg4⟩; have hb4 := (hB.out.kept hg4 hne1).cell)
    have hK4 : W4.heap[D]? = some (.deferred (some [])) := (hg4.block D hDl (fun e => hne2 e.symm)).trans hK
    have hbl4 : Below w.heap.size w W4 := hM.out.grown hg4 hM.out.size (fun k e => by have := (hown.lt k e).1; omega)
    refine ⟨by simp, .inl ⟨_, _, rfl, run_takeDeferred hK4, ?_⟩⟩
    exact ⟨_, results_tmp rfl _ _ _, v, l', rfl, hsp, ownsRow_putObj hown _ hK4 rfl, hbl4.grown (grownBy_putObj' W4 D _) hbl4.size (fun k e => by cases e; omega)⟩

end Go.Proofs.YtkkoooagamadjaaGreatDoor
