/- warderref24: own. -/
import Derived.Test.YtjmggphnngffjaaRPutA
namespace Go.Proofs.Ytjmggphnngffjaa
open Go.RowKit Go.Shelf

theorem RdK.zero (w : World) (k : Nat) (X : Option Addr) (c : Nat) : RdK w k (.slice X 0 c) 0 [] := ⟨X, c, rfl, by simp, .inl rfl⟩
theorem RdK.take {w : World} {k n cap i : Nat} {ad : Option Addr} {xs : List Value} (h : RdK w k (.slice ad n cap) n xs) (hi : i ≤ n) : RdK w k (.slice ad i cap) i (xs.take (i * k)) := by
  obtain ⟨ad', cap', hv, hl, h⟩ := h
  cases hv
  have hm : i * k ≤ n * k := Nat.mul_le_mul_right _ hi
  refine ⟨ad, cap, rfl, by rw [List.length_take]; omega, ?_⟩
  by_cases h0 : i = 0
  · exact .inl h0
  · obtain ⟨b, off, ha, hb, hc⟩ := h.resolve_left (by omega)
    refine .inr ⟨b, off, ha, hb, fun t x hx => hc t x ?_⟩
    rw [List.getElem?_take] at hx
    split at hx
    · exact hx
    · cases hx
theorem RdK.drop {w : World} {k n cap i b off : Nat} {xs : List Value} (h : RdK w k (.slice (some ⟨b, off, none⟩) n cap) n xs) (hn : 0 < n) (c : Nat) : RdK w k (.slice (some ⟨b, off + i * k, none⟩) (n - i) c) (n - i) (xs.drop (i * k)) := by
  obtain ⟨ad', cap', hv, hl, h⟩ := h
  cases hv
  refine ⟨_, _, rfl, by rw [List.length_drop, hl, Nat.sub_mul], ?_⟩
  obtain ⟨b', off', ha, hb, hc⟩ := h.resolve_left (by omega)
  cases ha
  refine .inr ⟨b, _, rfl, hb, fun t x hx => ?_⟩
  rw [List.getElem?_drop] at hx
  rw [Nat.add_assoc]
  exact hc _ _ hx

theorem step_appX {P : Program} {ops : Array Oper} {o : Oper} {a : Act} {w : World} {K : Act → World → Prop} {Q : Exit → Act → World → Prop} {E : Prop}
    (hg : o.guard = none) (s x : Operand) (t : TypeId) (hop : o.op = Op.call { callee := Callee.builtin Builtin.append, args := #[s, x], argTypes := #[t, t] })
    (e : TypeId) (z : Value) (size bytes base : Nat) (ht : P.underlying t = some (.slice e)) (hinfo : (P.info? e).map (fun i => (i.zero, i.size, i.bytes)) = some (some z, size, bytes))
    (hzs : z.cells.size = size) (hsz : 0 < size) (hby : 0 < bytes) (v : Value) (n : Nat) (xs : List Value) (hs : a.eval s = v) (hown : w.ownsRow base e size v n xs) (m : Nat) (news : List Value) (hx : ∃ vx, a.eval x = vx ∧ RdK w size vx m news)
    (h1 : ∀ u ∈ news, u.oneCell' = true) (hbytes : (n + m) * bytes ≤ 140737488355328) (hbase : base ≤ w.heap.size)
    (h : ∀ v' w', w'.ownsRow base e size v' (n + m) (xs ++ news) → w.grownBy w' v.ownBlock → K (a.put o.dst v') w') :
    if Region.wanted o (yielded ops a.tmps) = true then Oper.wp P o a w K Q else E := by
  obtain ⟨vx, hvx, hr⟩ := hx
  obtain ⟨v', w', hrun, ho, hgr⟩ := appK_run (P := P) w t o.type e z size bytes base ht hinfo hzs hsz hby v n xs hown vx m news hr h1 hbytes hbase
  exact step_append_known hg s x t t hop v vx hs hvx v' w' hrun (h v' w' ho hgr)

theorem wpList_appX {P : Program} (w : World) {ops : Array Oper} {rest : List Oper} {o : Oper} {a : Act} {Q : Exit → Act → World → Prop} (hgd : o.guard = none) (s x : Operand) (t : TypeId)
    (ho : o.op = .call { callee := .builtin .append, args := #[s, x], argTypes := #[t, t] })
    (e : TypeId) (z : Value) (size bytes base : Nat) (ht : P.underlying t = some (.slice e)) (hinfo : (P.info? e).map (fun i => (i.zero, i.size, i.bytes)) = some (some z, size, bytes))
    (hzs : z.cells.size = size) (hsz : 0 < size) (hby : 0 < bytes) (v : Value) (n : Nat) (xs : List Value) (hs : a.eval s = v) (hown : w.ownsRow base e size v n xs) (m : Nat) (news : List Value) (hx : ∃ vx, a.eval x = vx ∧ RdK w size vx m news)
    (h1 : ∀ u ∈ news, u.oneCell' = true) (hbytes : (n + m) * bytes ≤ 140737488355328) (hbase : base ≤ w.heap.size)
    (h : ∀ v' w', w'.ownsRow base e size v' (n + m) (xs ++ news) → w.grownBy w' v.ownBlock → wpList P ops Q rest (a.put o.dst v') w') : wpList P ops Q (o :: rest) a w := by
  obtain ⟨vx, hvx, hr⟩ := hx
  obtain ⟨v', w', hrun, ho', hgr⟩ := appK_run (P := P) w t o.type e z size bytes base ht hinfo hzs hsz hby v n xs hown vx m news hr h1 hbytes hbase
  exact wpList_append_known w hgd s x t t ho v vx hs hvx v' w' hrun (h v' w' ho' hgr)

/-- how own's zone lies while it is built -/
structure OS (w : World) (v1 v2 c1 c2 : Value) (xs : List (Int × Int)) (gs : List Int) (W : World) : Prop where
  z : Blk W w.heap.size #[v1, v2] 45
  res : Blk W (w.heap.size + 1) #[.slice none 0 0, .slice none 0 0] 45
  out : Blk W (w.heap.size + 2) #[c1, c2] 45
  zn : ZoneAt W w.heap.size c1 c2 xs gs
  low : Below w.heap.size w W
theorem OS.below {w W W' : World} {v1 v2 c1 c2 : Value} {xs : List (Int × Int)} {gs : List Int} (h : OS w v1 v2 c1 c2 xs gs W) (hb : Below W.heap.size W W') : OS w v1 v2 c1 c2 xs gs W' :=
  ⟨h.z.keep hb, h.res.keep hb, h.out.keep hb, h.zn.below hb, h.low.trans (hb.mono h.low.size)⟩
theorem OS.facts {w W : World} {v1 v2 c1 c2 : Value} {xs : List (Int × Int)} {gs : List Int} (h : OS w v1 v2 c1 c2 xs gs W) :
    W.cell? ⟨w.heap.size, 0, none⟩ = some v1 ∧ W.cell? ⟨w.heap.size, 1, none⟩ = some v2 ∧ W.cell? ⟨w.heap.size + 2, 0, none⟩ = some c1 ∧ W.cell? ⟨w.heap.size + 2, 1, none⟩ = some c2 ∧ w.heap.size + 2 < W.heap.size ∧
      W.frozen? ⟨w.heap.size + 2, 0, none⟩ = false ∧ W.frozen? ⟨w.heap.size + 2, 1, none⟩ = false :=
  ⟨h.z.two.1, h.z.two.2, h.out.two.1, h.out.two.2, h.out.lt, h.out.free 0, h.out.free 1⟩
theorem OS.grown {w W W' : World} {v1 v2 c1 c2 : Value} {xs : List (Int × Int)} {gs : List Int} (h : OS w v1 v2 c1 c2 xs gs W) {base n sz : Nat} {e : TypeId} {v : Value} {ys : List Value} (hr : W.ownsRow base e sz v n ys) (hbs : w.heap.size ≤ base) (he : 45 ≠ e) (hg : W.grownBy W' v.ownBlock) :
    Blk W' w.heap.size #[v1, v2] 45 ∧ Blk W' (w.heap.size + 1) #[.slice none 0 0, .slice none 0 0] 45 ∧ Blk W' (w.heap.size + 2) #[c1, c2] 45 ∧ Below w.heap.size w W' :=
  ⟨h.z.grown hg (h.z.row_ne hr he), h.res.grown hg (h.res.row_ne hr he), h.out.grown hg (h.out.row_ne hr he), h.low.grown hg h.low.size (fun k hk => by have := (hr.lt k hk).1; omega)⟩
theorem OS.cellC {w W W' : World} {v1 v2 c1 c2 : Value} {xs : List (Int × Int)} {gs : List Int} (h : OS w v1 v2 c1 c2 xs gs W) (hg : W.grownBy W' c1.ownBlock) :
    W'.cell? ⟨w.heap.size + 2, 0, none⟩ = some c1 ∧ W'.frozen? ⟨w.heap.size + 2, 0, none⟩ = false ∧ w.heap.size + 2 < W'.heap.size := by
  obtain ⟨_, _, h3, _⟩ := h.grown h.zn.1 (Nat.le_refl _) (by decide) hg
  exact ⟨h3.two.1, h3.free 0, h3.lt⟩
theorem OS.cellG {w W W' : World} {v1 v2 c1 c2 : Value} {xs : List (Int × Int)} {gs : List Int} (h : OS w v1 v2 c1 c2 xs gs W) (hg : W.grownBy W' c2.ownBlock) :
    W'.cell? ⟨w.heap.size + 2, 1, none⟩ = some c2 ∧ W'.frozen? ⟨w.heap.size + 2, 1, none⟩ = false ∧ w.heap.size + 2 < W'.heap.size := by
  obtain ⟨_, _, h3, _⟩ := h.grown h.zn.2 (Nat.le_refl _) (by decide) hg
  exact ⟨h3.two.2, h3.free 1, h3.lt⟩
/-- classes more -/
theorem OS.appC {w W W' : World} {v1 v2 c1 c2 c1' : Value} {xs ys : List (Int × Int)} {gs : List Int} (h : OS w v1 v2 c1 c2 xs gs W) (ho : W'.ownsRow w.heap.size 63 2 c1' (xs.length + ys.length) (cellsP xs ++ cellsP ys)) (hg : W.grownBy W' c1.ownBlock) :
    OS w v1 v2 c1' c2 (xs ++ ys) gs (W'.setCell ⟨w.heap.size + 2, 0, none⟩ c1') := by
  obtain ⟨h1, h2, h3, h4⟩ := h.grown h.zn.1 (Nat.le_refl _) (by decide) hg
  refine ⟨h1.other (by omega) _, h2.other (by omega) _, h3.store 0 _, ⟨?_, ?_⟩, h4.setCell (p := ⟨w.heap.size + 2, 0, none⟩) (by simp) _⟩
  · rw [List.length_append, cellsP_append]
    exact ownsRow_setCell_other ho (h3.row_ne ho (by decide)) _
  · have g2 := owns_beside h.zn.1 h.zn.2 (by decide) hg
    exact ownsRow_setCell_other g2 (h3.row_ne g2 (by decide)) _
/-- gaps more -/
theorem OS.appG {w W W' : World} {v1 v2 c1 c2 c2' : Value} {xs : List (Int × Int)} {gs ys : List Int} (h : OS w v1 v2 c1 c2 xs gs W) (ho : W'.ownsRow w.heap.size 3 1 c2' (gs.length + ys.length) (ints gs ++ ints ys)) (hg : W.grownBy W' c2.ownBlock) :
    OS w v1 v2 c1 c2' xs (gs ++ ys) (W'.setCell ⟨w.heap.size + 2, 1, none⟩ c2') := by
  obtain ⟨h1, h2, h3, h4⟩ := h.grown h.zn.2 (Nat.le_refl _) (by decide) hg
  refine ⟨h1.other (by omega) _, h2.other (by omega) _, h3.store 1 _, ⟨?_, ?_⟩, h4.setCell (p := ⟨w.heap.size + 2, 1, none⟩) (by simp) _⟩
  · have g2 := owns_beside h.zn.2 h.zn.1 (by decide) hg
    exact ownsRow_setCell_other g2 (h3.row_ne g2 (by decide)) _
  · rw [List.length_append, show ints (gs ++ ys) = ints gs ++ ints ys by simp [ints]]
    exact ownsRow_setCell_other ho (h3.row_ne ho (by decide)) _

/-- a row of numbers below B, not in a box -/
def RdB (W : World) (B box : Nat) (v : Value) (n : Nat) (xs : List Value) : Prop :=
  ∃ ad cap, v = .slice ad n cap ∧ xs.length = n ∧ n ≤ cap ∧ (n = 0 ∨ ∃ b, ad = some ⟨b, 0, none⟩ ∧ b < B ∧ b ≠ box ∧ b < W.heap.size ∧ ∀ t x, xs[t]? = some x → W.cell? ⟨b, t, none⟩ = some x)
theorem RdB.of_owns {W : World} {base n box : Nat} {v : Value} {xs : List Value} {cs : Array Value} {t : TypeId} (h : W.ownsRow base 3 1 v n xs) (hb : Blk W box cs t) (ht : t ≠ 3) : RdB W W.heap.size box v n xs := by
  have hl := h.1
  rcases h.2 with ⟨rfl, h0⟩ | ⟨g, cap, cur, rfl, hb1, hg, hn, hm, hs, htk⟩
  · exact ⟨none, 0, by rw [h0], by omega, by omega, .inl h0⟩
  · refine ⟨_, cap, rfl, by omega, hn, .inr ⟨g, rfl, (Array.getElem?_eq_some_iff.1 hg).1, fun e => ?_, (Array.getElem?_eq_some_iff.1 hg).1, fun t x hx => ?_⟩⟩
    · subst e
      rw [show W.heap[g]? = _ from hb] at hg; cases hg; exact ht rfl
    · have hc := World.ownsRow.cellAt h t (by have := (List.getElem?_eq_some_iff.1 hx).1; omega)
      rw [hc, hx]
theorem RdB.grown {W W' : World} {B box n : Nat} {v : Value} {xs : List Value} {row : Option Nat} (h : RdB W B box v n xs) (hg : W.grownBy W' row) (hr : ∀ k, row = some k → B ≤ k) : RdB W' B box v n xs := by
  obtain ⟨ad, cap, hv, hl, hn, h⟩ := h
  refine ⟨ad, cap, hv, hl, hn, ?_⟩
  rcases h with h | ⟨b, ha, h1, h2, h3, hc⟩
  · exact .inl h
  · exact .inr ⟨b, ha, h1, h2, Nat.lt_of_lt_of_le h3 hg.size, fun t x hx => (World.cell?_of_block (a := ⟨b, t, none⟩) (hg.block b h3 (fun e => by have := hr b e.symm; omega))).trans (hc t x hx)⟩
theorem RdB.setBox {W : World} {B box n : Nat} {v : Value} {xs : List Value} (h : RdB W B box v n xs) (j : Nat) (u : Value) : RdB (W.setCell ⟨box, j, none⟩ u) B box v n xs := by
  obtain ⟨ad, cap, hv, hl, hn, h⟩ := h
  refine ⟨ad, cap, hv, hl, hn, ?_⟩
  rcases h with h | ⟨b, ha, h1, h2, h3, hc⟩
  · exact .inl h
  · exact .inr ⟨b, ha, h1, h2, by simpa [World.setCell] using h3, fun t x hx => (World.cell?_of_block (a := ⟨b, t, none⟩) (Below.heap_setCell W ⟨box, j, none⟩ u b h2)).trans (hc t x hx)⟩
theorem RdB.rd {W : World} {B box n : Nat} {v : Value} {xs : List Value} (h : RdB W B box v n xs) : RdK W 1 v n xs := by
  obtain ⟨ad, cap, hv, hl, hn, h⟩ := h
  refine ⟨ad, cap, hv, by omega, ?_⟩
  rcases h with h | ⟨b, ha, h1, h2, h3, hc⟩
  · exact .inl h
  · exact .inr ⟨b, 0, ha, h3, fun t x hx => by rw [Nat.zero_add]; exact hc t x hx⟩
theorem RdB.drew {W : World} {B box n : Nat} {v : Value} {xs : List Value} (h : RdB W B box v n xs) : RdB W.drew B box v n xs := h
/-- own's zone, the gaps in memory from B on, and the gaps that are read -/
structure OG (w : World) (v1 v2 c1 c2 : Value) (xs : List (Int × Int)) (gs : List Int) (B : Nat) (gv : Value) (m : Nat) (gl' : List Int) (W : World) : Prop where
  os : OS w v1 v2 c1 c2 xs gs W
  row : W.ownsRow B 3 1 c2 gs.length (ints gs)
  rd : RdB W B (w.heap.size + 2) gv m (ints gl')
  hb : B ≤ W.heap.size
  h0 : w.heap.size ≤ B
theorem OG.drew {w W : World} {v1 v2 c1 c2 gv : Value} {xs : List (Int × Int)} {gs gl' : List Int} {B m : Nat} (h : OG w v1 v2 c1 c2 xs gs B gv m gl' W) : OG w v1 v2 c1 c2 xs gs B gv m gl' W.drew :=
  ⟨h.os.below (Below.refl _ W).drew, h.row, h.rd.drew, h.hb, h.h0⟩
theorem OG.app {w W W' : World} {v1 v2 c1 c2 c2' gv : Value} {xs : List (Int × Int)} {gs gl' ys : List Int} {B m : Nat} (h : OG w v1 v2 c1 c2 xs gs B gv m gl' W) (ho : W'.ownsRow B 3 1 c2' (gs.length + ys.length) (ints gs ++ ints ys)) (hg : W.grownBy W' c2.ownBlock) :
    OG w v1 v2 c1 c2' xs (gs ++ ys) B gv m gl' (W'.setCell ⟨w.heap.size + 2, 1, none⟩ c2') := by
  obtain ⟨_, _, h3, _⟩ := h.os.grown h.os.zn.2 (Nat.le_refl _) (by decide) hg
  refine ⟨h.os.appG (owns_mono ho h.h0) hg, ?_, (h.rd.grown hg (fun k hk => (h.row.lt k hk).1)).setBox 1 _, by have := hg.size; have := h.hb; simp [World.setCell]; omega, h.h0⟩
  rw [List.length_append, show ints (gs ++ ys) = ints gs ++ ints ys by simp [ints]]
  exact ownsRow_setCell_other ho (h3.row_ne ho (by decide)) _

end Go.Proofs.Ytjmggphnngffjaa
