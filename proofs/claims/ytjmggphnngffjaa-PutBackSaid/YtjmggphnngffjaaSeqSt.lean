/- A law for a range over an iterator that keeps state in cells of its own, where the body appends to one boxed slice: of any program; no condition beyond those that it states. -/
import Derived.Test.YtjmggphnngffjaaKit
import Derived.RangeFuncNested
import Derived.RangeFuncBound
import Derived.RangeFuncCalls
import Derived.RangeFuncLeaves
import Derived.RangeFuncRecord
namespace Go.Proofs.Ytjmggphnngffjaa
open Go.RowKit

/-- block r is not the row of the slice that box bo holds -/
def Free (bo : Nat) (W : World) (r : Nat) : Prop := ∀ v, W.cell? ⟨bo, 0, none⟩ = some v → v.ownBlock ≠ some r

theorem Free.grown {bo r : Nat} {A B : World} {row : Option Nat} (h : Free bo A r) (hg : A.grownBy B row) (hb : bo < A.heap.size) (hr : row ≠ some bo) : Free bo B r := fun v hv =>
  h v ((World.cell?_of_block (a := ⟨bo, 0, none⟩) (hg.block bo hb (fun e => hr e.symm))).symm.trans hv)

/-- what a round keeps: whatever lies in D and is not the row of the slice in bo -/
structure Harb (D : Nat → Prop) (bo : Nat) (W W' : World) : Prop where
  size : W.heap.size ≤ W'.heap.size
  same : ∀ k, D k → k < W.heap.size → Free bo W k → W'.heap[k]? = W.heap[k]? ∧ Free bo W' k

theorem Harb.refl (D : Nat → Prop) (bo : Nat) (W : World) : Harb D bo W W := ⟨Nat.le_refl _, fun _ _ _ h => ⟨rfl, h⟩⟩
theorem Harb.trans {D : Nat → Prop} {bo : Nat} {X Y Z : World} (h : Harb D bo X Y) (k : Harb D bo Y Z) : Harb D bo X Z :=
  ⟨Nat.le_trans h.size k.size, fun i hB hi hf => by
    obtain ⟨h1, h2⟩ := h.same i hB hi hf
    obtain ⟨k1, k2⟩ := k.same i hB (Nat.lt_of_lt_of_le hi h.size) h2
    exact ⟨k1.trans h1, k2⟩⟩
theorem Harb.mono {D D' : Nat → Prop} {bo : Nat} {X Y : World} (h : Harb D bo X Y) (hB : ∀ k, D' k → D k) : Harb D' bo X Y := ⟨h.size, fun i hi => h.same i (hB i hi)⟩

/-- a statement that abides new blocks and the turn of one block from B on that is not the row of the slice in bo -/
def Abides' {β : Type} (B bo : Nat) (I : β → World → Prop) : Prop :=
  ∀ s A A' row, I s A → A.grownBy A' row → (∀ r, row = some r → B ≤ r ∧ Free bo A r) → I s A'

/-- the contract of an iterator that keeps state in cells of its own and is never told to stop -/
def SeqSt {α : Type} (F : Fence) (n : Nat) (P : Program) (g : Nat) (lb : Array Value) (encs : α → Array Value) (B bo : Nat) (xs : List α) (w : World) : Prop :=
  ∀ (l : Nat) (J : List α → World → Prop) (W : World), Below w.heap.size w W → Abides' W.heap.size bo J → (∀ s A, J s A → bo < A.heap.size ∧ bo < W.heap.size ∧ W.heap.size ≤ A.heap.size ∧ ∀ r, A.heap.size ≤ r → Free bo A r) → (∀ k, B ≤ k → Free bo W k) →
    (∀ pre x W1, J pre W1 → pre ++ [x] <+: xs → YieldAt F (n - 1) P l (encs x) W1 fun e W' => e = .returned (.bool true) ∧ J (pre ++ [x]) W' ∧ Harb (fun k => (B ≤ k ∧ k < w.heap.size) ∨ W.heap.size ≤ k) bo W1 W') →
    J [] W →
    CallsIn F n P g (#[.func (.yield l) #[] #[]] ++ lb) W fun e W' => (∃ v, e = .returned v) ∧ J xs W'

def stPost {α : Type} (B bo : Nat) (I : List α → World → Prop) (xs : List α) (W : World) : Exit → Act → World → Prop
  | .normal, _, W' => Harb (fun k => B ≤ k) bo W W' ∧ I xs W'
  | .ret, _, _ => False
  | .exit _, _, _ => False
  | .goto _, _, _ => False
  | .panic _, _, _ => False
  | .outgrown, _, _ => False

variable {F : Fence} {n : Nat} {P : Program}

theorem wpIn_rangeFunc_st {α : Type} {g : Operand} {ps : Array Tmp} {assign body : Code} {Q : Exit → Act → World → Prop} {a : Act} {w : World}
    (hro : F.round = none) (h1 : 1 ≤ n) {gf : Nat} {lb : Array Value} (hg : a.eval g = .func (.func gf) #[] lb) (hFg : F.fn gf) (eg : ∀ args w, (callFunc gf args).run P w = .ok (.enter gf args) w)
    {encs : α → Array Value} (B bo : Nat) {xs : List α} {w0 : World} (hseq : SeqSt F (n - 1) P gf lb encs B bo xs w0)
    (hb0 : Below w0.heap.size w0 w) (hps : ∀ x, (encs x).size = ps.size) (hbo : bo < w.heap.size) (hB0 : B ≤ w0.heap.size) (hfr : ∀ k, B ≤ k → Free bo w k)
    (I : List α → World → Prop) (hI : Abides' w.heap.size bo I) (hIf : ∀ s A, I s A → ∀ r, A.heap.size ≤ r → Free bo A r) (h0 : I [] w) (a₁ : α → Act)
    (hassign : ∀ (l : Nat) (x : α) (W : World) (K : Act → World → Prop), K (a₁ x) W →
      assign.wpIn (F.inRound l) (n - 1 - 1) P (Exit.then K (fun _ _ _ => False)) { tmps := (ps.zip (encs x)).foldl (fun t (p, v) => t.setIfInBounds p v) a.tmps, defers := [] } W)
    (hbody : ∀ (l : Nat) (pre : List α) (x : α) (W : World), w.heap.size ≤ W.heap.size → I pre W → pre ++ [x] <+: xs → body.wpIn (F.inRound l) (n - 1 - 1) P (stPost B bo I (pre ++ [x]) W) (a₁ x) W)
    (hdone : ∀ (D : Nat) (W : World), w.heap.size ≤ D → Free bo W D → I xs W → W.heap[D]? = some (.deferred (some [])) → Q .normal { a with defers := { target := .collected D, args := #[] } :: a.defers } W) :
    (Code.rangeFunc g ps assign body).wpIn F n P Q a w := by
  refine wpIn_rangeFunc ?_
  intro fn hfn
  rw [hro]
  obtain ⟨rec, hrec⟩ : ∃ rec : LoopState → Option Code → Loop, rec = fun st pe => { state := st, pending := pe, fn, tmps := a.tmps, params := ps, assign, body, defers := w.heap.size } := ⟨_, rfl⟩
  obtain ⟨W1, hW1⟩ : ∃ W1, (w.alloc (.deferred (some []))).alloc (.loop (rec .ready none)) = W1 := ⟨_, rfl⟩
  have hs1 : W1.heap.size = w.heap.size + 2 := by rw [← hW1]; simp
  have hL1 : W1.heap[w.heap.size + 1]? = some (.loop (rec .ready none)) := by
    rw [← hW1]; have := World.alloc_heap_new (w.alloc (.deferred (some []))) (.loop (rec .ready none)); rwa [World.size_alloc] at this
  have hK1 : W1.heap[w.heap.size]? = some (.deferred (some [])) := by
    rw [← hW1]; exact (Below.heap_alloc _ _ _ (by simp)).trans (World.alloc_heap_new w _)
  have hIalloc : ∀ s A o, I s A → I s (A.alloc o) := fun s A o h => hI s A _ none h (World.grownBy_alloc A o none) (fun r e => by cases e)
  have hIput : ∀ s A r o, I s A → w.heap.size ≤ r → Free bo A r → I s (A.putObj r o) := fun s A r o h hr hf => hI s A _ (some r) h (grownBy_putObj' A r o) (fun r' e => by cases e; exact ⟨hr, hf⟩)
  have hfput : ∀ A r k o, Free bo A k → bo < A.heap.size → r ≠ bo → Free bo (A.putObj r o) k := fun A r k o hf hb hr => hf.grown (grownBy_putObj' A r o) hb (fun e => hr (by cases e; rfl))
  have hI1 : I [] W1 := by rw [← hW1]; exact hIalloc _ _ _ (hIalloc _ _ _ h0)
  have hfa : ∀ A o k, bo < A.heap.size → Free bo A k → Free bo (A.alloc o) k := fun A o k hb hf => hf.grown (World.grownBy_alloc A o none) hb (by simp)
  have hB0' : w0.heap.size ≤ w.heap.size := hb0.size
  have hF1 : ∀ k, B ≤ k → Free bo W1 k := fun k hk => by
    rw [← hW1]; exact hfa _ _ _ (by simp; omega) (hfa _ _ _ hbo (hfr k hk))
  have hb1 : Below w0.heap.size w0 W1 := by
    rw [← hW1]; exact hb0.trans ((((Below.refl _ w).alloc (Nat.le_refl _) _).alloc (by simp) _).mono hb0.size)
  refine ⟨w.heap.size + 1, [{ target := .collected w.heap.size, args := #[] }], W1, { target := .fn (.func gf) lb, args := #[.func (.yield (w.heap.size + 1)) #[] #[]] }, W1, gf,
    #[.func (.yield (w.heap.size + 1)) #[] #[]] ++ lb, W1, ?_, ?_, ?_, ?_, fun _ => h1, ?_⟩
  · rw [← hW1, hrec]; exact run_enterLoop_outer _ _ _ _ _
  · simp only [resolve, hg]
    simp [go_sem]
  · intro f' hf'; simp [Target.leads] at hf'; subst hf'; exact hFg
  · simp [invoke, go_sem, eg]
  · refine (hseq (w.heap.size + 1)
      (fun pre W => I pre W ∧ W.heap[w.heap.size + 1]? = some (.loop (rec .ready none)) ∧ W.heap[w.heap.size]? = some (.deferred (some [])) ∧ Free bo W (w.heap.size + 1) ∧ Free bo W w.heap.size)
      W1 hb1 ?_ ?_ hF1 ?_ ⟨hI1, hL1, hK1, hF1 _ (by omega), hF1 _ (by omega)⟩).mono ?_
    · rintro s A A' row ⟨hi, hl, hk, f1, f2⟩ hg' hr
      have hlt : w.heap.size + 1 < A.heap.size := (Array.getElem?_eq_some_iff.1 hl).1
      have hne : ∀ k, k < W1.heap.size → some k ≠ row := fun k hk e => by have := (hr k e.symm).1; omega
      refine ⟨hI s A A' row hi hg' (fun r e => ⟨by have := (hr r e).1; omega, (hr r e).2⟩), (hg'.block _ hlt (hne _ (by omega))).trans hl, (hg'.block _ (by omega) (hne _ (by omega))).trans hk, ?_, ?_⟩
      · exact f1.grown hg' (by omega) (fun e => hne bo (by omega) e.symm)
      · exact f2.grown hg' (by omega) (fun e => hne bo (by omega) e.symm)
    · rintro s A ⟨hi, hl, hk, f1, f2⟩
      have hlt : w.heap.size + 1 < A.heap.size := (Array.getElem?_eq_some_iff.1 hl).1
      exact ⟨by omega, by omega, by omega, hIf s A hi⟩
    · -- ONE ROUND
      rintro pre x W ⟨hi, hl, hk, f1, f2⟩ hpre
      have hlt : w.heap.size + 1 < W.heap.size := (Array.getElem?_eq_some_iff.1 hl).1
      have hy := run_yield (P := P) (args := encs x) hl (by rw [hrec]; exact hps x)
      rw [hrec] at hy
      refine ⟨fn, _, assign, body, hy, roundIn_of_wpIn hfn (hassign _ x W _ ⟨_, run_beginRound hl (by rw [hrec]), ?_⟩)⟩
      have hl2 : (W.putObj (w.heap.size + 1) (.loop { rec .ready none with state := .busy })).heap[w.heap.size + 1]? = some (.loop { rec .ready none with state := .busy }) := World.putObj_heap_same hlt
      have hk2 : (W.putObj (w.heap.size + 1) (.loop { rec .ready none with state := .busy })).heap[w.heap.size]? = some (.deferred (some [])) := (World.putObj_heap_other (by omega)).trans hk
      have hsz2 : (W.putObj (w.heap.size + 1) (.loop { rec .ready none with state := .busy })).heap.size = W.heap.size := World.putObj_size
      have g1 : Free bo (W.putObj (w.heap.size + 1) (.loop { rec .ready none with state := .busy })) (w.heap.size + 1) := hfput _ _ _ _ f1 (by omega) (by omega)
      have g2 : Free bo (W.putObj (w.heap.size + 1) (.loop { rec .ready none with state := .busy })) w.heap.size := hfput _ _ _ _ f2 (by omega) (by omega)
      have hw2 : Harb (fun k => (B ≤ k ∧ k < w0.heap.size) ∨ W1.heap.size ≤ k) bo W (W.putObj (w.heap.size + 1) (.loop { rec .ready none with state := .busy })) :=
        ⟨by rw [hsz2]; exact Nat.le_refl _, fun k hB hk hf => ⟨World.putObj_heap_other (by omega), hfput _ _ _ _ hf (by omega) (by omega)⟩⟩
      refine wpIn_mono (hbody _ pre x _ (by rw [hsz2]; omega) (hIput _ _ _ _ hi (by omega) f1) hpre) ?_
      rintro e a3 W3 hp
      cases e with
      | normal =>
        obtain ⟨hk3, hi3⟩ := hp
        obtain ⟨e3, g3⟩ := hk3.same (w.heap.size + 1) (by omega) (by rw [hsz2]; omega) g1
        obtain ⟨e4, g4⟩ := hk3.same w.heap.size (by omega) (by rw [hsz2]; omega) g2
        have hl3 := e3.trans hl2
        have hk3' := e4.trans hk2
        have hr := run_endRound (P := P) none hl3
        have hlt3 : w.heap.size + 1 < W3.heap.size := (Array.getElem?_eq_some_iff.1 hl3).1
        refine ⟨_, _, hr, rfl, ⟨hIput _ _ _ _ hi3 (by omega) g3, ?_, (World.putObj_heap_other (by omega)).trans hk3', hfput _ _ _ _ g3 (by omega) (by omega), hfput _ _ _ _ g4 (by omega) (by omega)⟩, ?_⟩
        · rw [World.putObj_heap_same hlt3, hrec]; rfl
        · refine (hw2.trans (hk3.mono (fun k hk => by omega))).trans ⟨by rw [World.putObj_size]; exact Nat.le_refl _, fun k hB hk hf => ⟨World.putObj_heap_other (by omega), hfput _ _ _ _ hf (by omega) (by omega)⟩⟩
      | ret => exact hp.elim
      | exit id => exact hp.elim
      | goto t => exact hp.elim
      | panic ch => exact hp.elim
      | outgrown => exact hp.elim
    · -- BEHIND THE ITERATOR
      rintro e W2 ⟨⟨v, rfl⟩, hi, hl, hk, f1, f2⟩
      have hlt : w.heap.size + 1 < W2.heap.size := (Array.getElem?_eq_some_iff.1 hl).1
      exact ⟨none, _, by have := run_endLoop (P := P) hl (by rw [hrec]; simp); rw [hrec] at this; exact this, hdone _ _ (Nat.le_refl _) (hfput _ _ _ _ f2 (by omega) (by omega)) (hIput _ _ _ _ hi (by omega) f1) ((World.putObj_heap_other (by omega)).trans hk)⟩

end Go.Proofs.Ytjmggphnngffjaa
