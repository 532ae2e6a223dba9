/- Contract of warderref05.Read. Plain: the last token that is read is not the end. -/
import Derived.Test.YtignjhbajjephaaGreatDoorCr24
import Derived.Test.YtignjhbajjephaaGreatDoorCr10
import Derived.Test.YtignjhbajjephaaGreatDoorCr07

namespace Go.Proofs.YtignjhbajjephaaGreatDoor
open Go.RowKit

theorem FtB.row3 {w : World} {b base n : Nat} {t : TypeId} {sz : Nat} {v : Value} {xs : List Value} {e l c : Int} (h : FtB w b e l c) (hr : w.ownsRow base t sz v n xs) (ht : 28 ≠ t) (e2 l2 c2 : Int) :
    (((w.setCell ⟨b, 0, none⟩ (.int .i64 e2)).setCell ⟨b, 1, none⟩ (.int .i64 l2)).setCell ⟨b, 2, none⟩ (.int .i64 c2)).ownsRow base t sz v n xs := h.row hr ht e2 l2 c2

set_option maxRecDepth 100000 in
set_option maxHeartbeats 4000000 in
theorem rread_any {w : World} {B : Nat} {v : Value} {T : List Tk} (h : TkIn w B v T) (hB : B ≤ w.heap.size) (i : Int) (prop : Bool) (hlo : -9223372036854775808 ≤ i) (hhi : i ≤ 1000000) :
    Calls Tryz.prog 11 #[v, .int .i64 i, .bool prop] w (ReadPost w (readP T prop i)) := by
  have HTK : Hid (∀ W, Below w.heap.size w W → TkIn W B v T) := fun W hW => h.below (hW.mono hB)
  have HB0 := Lib.hid ((Below.refl w.heap.size w).alloc (Nat.le_refl _) (.cells #[.int .i64 0, .int .i64 0, .int .i64 0] 28))
  have HQ := Lib.hid (show FtB (w.alloc (.cells #[.int .i64 0, .int .i64 0, .int .i64 0] 28)) w.heap.size 0 0 0 from heap_alloc_new w _)
  have HFO := Lib.hid ((rboth_any 25 (by omega)).2 _ B v T i prop 0 (HTK.out _ HB0.out) (Nat.le_trans hB HB0.out.size) hlo hhi (by omega))
  obtain ⟨x, hx⟩ : ∃ x, tkAt T i = x := ⟨_, rfl⟩
  have HX := Lib.hid hx
  have hfd : ∀ w : World, (Instr.field 43 (.agg #[.int .i64 x.kind, .string x.text, .int .i64 x.num, .int .i64 x.line, .int .i64 x.col]) 3).run Tryz.prog w = .ok (.agg #[.int .i64 x.line, .int .i64 x.col]) w := fun _ => by kernel_rfl
  clear h hx
  cases hp : (bothP T prop 25).2 i with
  | bad er l c =>
    have HU : Hid (readP T prop i = .bad er l c) := by unfold Hid readP; rw [hp]
    have HE1 := Lib.hid hp
    clear hp
    go_enter Tryz.func11, Tryz.ntmps11
    go_wp2_with fail
    refine HFO.out.mono ?_
    rw [HE1.out]
    rintro e w1 ⟨av, h0, rfl, hb⟩
    have ne : (er == 0) = false := beq_eq_false_iff_ne.2 h0
    have ne2 : (er != 0) = true := by simp [bne, ne]
    have HBx := Lib.hid ((HB0.out.trans (hb.mono HB0.out.size)).alloc (Nat.le_trans HB0.out.size hb.size) (.cells #[.slice none 0 0, .int .i64 av, .int .i64 er, .int .i64 l, .int .i64 c] 66))
    have hq3 := (HQ.out.below hb).alloc (.cells #[.slice none 0 0, .int .i64 av, .int .i64 er, .int .i64 l, .int .i64 c] 66)
    have ha3 := (show PrB (w1.alloc (.cells #[.slice none 0 0, .int .i64 av, .int .i64 er, .int .i64 l, .int .i64 c] 66)) w1.heap.size (.slice none 0 0) av er l c from heap_alloc_new w1 _)
    have m2 := ha3.facts.2.2.1
    clear hb h0
    go_upto_if 17 with fail
    obtain ⟨WW, hWW⟩ : ∃ W, w1.alloc (.cells #[.slice none 0 0, .int .i64 av, .int .i64 er, .int .i64 l, .int .i64 c] 66) = W := ⟨_, rfl⟩
    rw [hWW] at hq3 ha3 HBx ⊢
    clear hWW m2
    obtain ⟨m0, m1, m2, m3, m4⟩ := ha3.facts
    obtain ⟨q0, q1, q2⟩ := hq3.facts
    obtain ⟨z0, z1, z2⟩ := hq3.free
    have hlt3 := hq3.lt
    have HE := Lib.hid (hq3.stored er l c).facts
    clear hq3 ha3
    go_wp2
    go_region
    go_wp2
    refine bodyPost_ret (v := .tuple #[.slice none 0 0, .int .i64 0, .agg #[.int .i64 er, .int .i64 l, .int .i64 c]]) (by simp [results, Tryz.results11, go_sem, q0, q1, q2]) rfl ?_
    rw [HU.out]
    exact ⟨rfl, (below_fault HBx.out (Nat.le_refl _) _ _ _).drew⟩
  | ok o a =>
    have HE1 := Lib.hid hp
    by_cases h64 : 64 < o.length
    · have HU : Hid (readP T prop i = .bad 3 x.line x.col) := by unfold Hid readP; rw [hp]; dsimp only; rw [if_pos h64, HX.out]
      have hz64 : (64 : Int) < (o.length : Int) := by omega
      clear hp
      go_enter Tryz.func11, Tryz.ntmps11
      go_wp2_with fail
      refine HFO.out.mono ?_
      rw [HE1.out]
      rintro e w1 ⟨g1, cap1, rfl, hrow, hb⟩
      have HBx := Lib.hid ((HB0.out.trans (hb.mono HB0.out.size)).alloc (Nat.le_trans HB0.out.size hb.size) (.cells #[.slice (some ⟨g1, 0, none⟩) o.length cap1, .int .i64 a, .int .i64 0, .int .i64 0, .int .i64 0] 66))
      have HQ3 := Lib.hid ((HQ.out.below hb).alloc (.cells #[.slice (some ⟨g1, 0, none⟩) o.length cap1, .int .i64 a, .int .i64 0, .int .i64 0, .int .i64 0] 66))
      have ha3 := (show PrB (w1.alloc (.cells #[.slice (some ⟨g1, 0, none⟩) o.length cap1, .int .i64 a, .int .i64 0, .int .i64 0, .int .i64 0] 66)) w1.heap.size (.slice (some ⟨g1, 0, none⟩) o.length cap1) a 0 0 0 from heap_alloc_new w1 _)
      obtain ⟨m0, m1, m2, m3, m4⟩ := ha3.facts
      have hltq := (HQ.out.below hb).lt
      clear hb ha3 hrow
      go_wp2_with fail
      refine (rctok_any (HTK.out _ HBx.out) i).mono ?_
      rintro e w8 ⟨rfl, hb8⟩
      rw [HX.out]
      unfold tokV
      have HB8 := Lib.hid (HBx.out.trans (hb8.mono HBx.out.size))
      have hq3 := HQ3.out.below hb8
      obtain ⟨q0, q1, q2⟩ := hq3.facts
      obtain ⟨z0, z1, z2⟩ := hq3.free
      have hlt3 := hq3.lt
      have HE := Lib.hid (hq3.stored 3 x.line x.col).facts
      clear hb8 hq3
      go_wp2
      obtain ⟨e0, e1, e2⟩ := HE.out
      refine bodyPost_ret (v := .tuple #[.slice none 0 0, .int .i64 0, .agg #[.int .i64 3, .int .i64 x.line, .int .i64 x.col]]) (by simp [results, Tryz.results11, go_sem, e0, e1, e2]) rfl ?_
      rw [HU.out]
      exact ⟨rfl, (below_fault HB8.out (Nat.le_refl _) _ _ _)⟩
    · have HU : Hid (readP T prop i = .ok o a) := by unfold Hid readP; rw [hp]; dsimp only; rw [if_neg h64]
      have hz64 : ¬ (64 : Int) < (o.length : Int) := by omega
      clear hp
      go_enter Tryz.func11, Tryz.ntmps11
      go_wp2_with fail
      refine HFO.out.mono ?_
      rw [HE1.out]
      rintro e w1 ⟨g1, cap1, rfl, hrow, hb⟩
      have hRow := owns_mono (owns_alloc hrow (.cells #[.slice (some ⟨g1, 0, none⟩) o.length cap1, .int .i64 a, .int .i64 0, .int .i64 0, .int .i64 0] 66)) HB0.out.size
      have HBx := Lib.hid ((HB0.out.trans (hb.mono HB0.out.size)).alloc (Nat.le_trans HB0.out.size hb.size) (.cells #[.slice (some ⟨g1, 0, none⟩) o.length cap1, .int .i64 a, .int .i64 0, .int .i64 0, .int .i64 0] 66))
      have hq3 := ((HQ.out.below hb).alloc (.cells #[.slice (some ⟨g1, 0, none⟩) o.length cap1, .int .i64 a, .int .i64 0, .int .i64 0, .int .i64 0] 66))
      have ha3 := (show PrB (w1.alloc (.cells #[.slice (some ⟨g1, 0, none⟩) o.length cap1, .int .i64 a, .int .i64 0, .int .i64 0, .int .i64 0] 66)) w1.heap.size (.slice (some ⟨g1, 0, none⟩) o.length cap1) a 0 0 0 from heap_alloc_new w1 _)
      have hltq := (HQ.out.below hb).lt
      obtain ⟨m0, m1, m2, m3, m4⟩ := ha3.facts
      clear hb hrow
      go_upto_if 23 with fail
      obtain ⟨WW, hWW⟩ : ∃ W, w1.alloc (.cells #[.slice (some ⟨g1, 0, none⟩) o.length cap1, .int .i64 a, .int .i64 0, .int .i64 0, .int .i64 0] 66) = W := ⟨_, rfl⟩
      rw [hWW] at hq3 ha3 HBx hRow ⊢
      clear hWW m0 m1 m2 m3 m4
      obtain ⟨n0, n1, _, _, _⟩ := ha3.drew.facts
      obtain ⟨q0, q1, q2⟩ := hq3.facts
      obtain ⟨z0, z1, z2⟩ := hq3.free
      have hlt3 := hq3.lt
      obtain ⟨t0, t1, _, _, _⟩ := (((ha3.over (k := w.heap.size) (j := 0) (by omega) (.int .i64 0)).over (k := w.heap.size) (j := 1) (by omega) (.int .i64 0)).over (k := w.heap.size) (j := 2) (by omega) (.int .i64 0)).drew.facts
      have HE := Lib.hid (hq3.stored 0 0 0).facts
      have HOW := Lib.hid (hq3.row hRow (by decide) 0 0 0)
      clear hq3 ha3 hRow
      go_wp2
      first
      | (go_region_held3 (fun w' => w'.cell? ⟨w1.heap.size, 0, none⟩ = some (.slice (some ⟨g1, 0, none⟩) o.length cap1) ∧ w'.cell? ⟨w1.heap.size, 1, none⟩ = some (.int .i64 a))
          (first | (with_reducible exact ⟨n0, n1⟩) | (with_reducible exact ⟨t0, t1⟩) | (trace_state; fail))
          (fail))
      | fail
      all_goals
        go_wp2
        obtain ⟨e0, e1, e2⟩ := HE.out
        refine bodyPost_ret (v := .tuple #[.slice (some ⟨g1, 0, none⟩) o.length cap1, .int .i64 a, .agg #[.int .i64 0, .int .i64 0, .int .i64 0]]) (by simp [results, Tryz.results11, go_sem, q0, q1, q2]) rfl ?_
        rw [HU.out]
        exact ⟨_, rfl, HOW.out.drew, (below_fault HBx.out (Nat.le_refl _) _ _ _).drew⟩

end Go.Proofs.YtignjhbajjephaaGreatDoor

namespace Go.Proofs.YtignjhbajjephaaGreatDoor
open Go.RowKit

def Good2 (T : List Tk) (one : Int → PR) : Prop := ∀ i o a, one i = .ok o a → (tkAt T (a - 1)).kind ≠ 5
theorem last_of {T : List Tk} {i a : Int} (h : (tkAt T i).kind ≠ 5) (e : a - 1 = i) : (tkAt T (a - 1)).kind ≠ 5 := by rw [e]; exact h
theorem isTk_not {T : List Tk} {i kind : Int} {s : ByteArray} (h : isTk T i kind s = true) (hk : kind ≠ 5) : (tkAt T i).kind ≠ 5 := by rw [isTk_kind h]; exact hk
theorem rowP_good2 {T : List Tk} {one : Int → PR} (h : Good2 T one) (wd : ByteArray) (op : Int) : ∀ (k : Nat) (i : Int) (out : List It) (o : List It) (a : Int), (tkAt T (i - 1)).kind ≠ 5 → rowP T one wd op k i out = .ok o a → (tkAt T (a - 1)).kind ≠ 5
  | 0, i, out, o, a, h0, he => by
    simp only [rowP, PR.ok.injEq] at he
    obtain ⟨rfl, rfl⟩ := he
    exact h0
  | k + 1, i, out, o, a, h0, he => by
    rw [rowP] at he
    split at he
    · obtain ⟨o1, a1, he1, he2⟩ := also_ok he
      exact rowP_good2 h wd op k _ _ _ _ (h _ _ _ he1) he2
    · simp only [PR.ok.injEq] at he
      obtain ⟨rfl, rfl⟩ := he
      exact h0
theorem rowsP_good2 {T : List Tk} {one : Int → PR} (h : Good2 T one) (wd : ByteArray) (op : Int) : Good2 T (rowsP T one wd op) := by
  intro i o a he
  obtain ⟨o1, a1, he1, he2⟩ := also_ok he
  exact rowP_good2 h wd op _ _ _ _ _ (h _ _ _ he1) he2
theorem compP_good2 (T : List Tk) : Good2 T (compP T) := by
  intro i o a he
  unfold compP at he
  split at he
  · split at he
    · cases he
    · split at he
      · rename_i h2 h3
        simp only [PR.ok.injEq] at he
        obtain ⟨rfl, rfl⟩ := he
        exact last_of (isWord_kind h3) (by omega)
      · cases he
  · cases he
theorem namedP_good2 (T : List Tk) (i : Int) (op : Int) (o : List It) (a : Int) (he : namedP T i op = .ok o a) : (tkAt T (a - 1)).kind ≠ 5 := by
  unfold namedP at he
  split at he
  · rename_i h1
    simp only [PR.ok.injEq] at he
    obtain ⟨rfl, rfl⟩ := he
    exact last_of (i := i + 1) (by omega) (by omega)
  · cases he
theorem didP_good2 (T : List Tk) (i : Int) (o : List It) (a : Int) (he : didP T i = .ok o a) : (tkAt T (a - 1)).kind ≠ 5 := by
  unfold didP at he
  split at he
  · split at he
    · rename_i h1 h2
      simp only [PR.ok.injEq] at he
      obtain ⟨rfl, rfl⟩ := he
      exact last_of (i := i + 2) (by omega) (by omega)
    · cases he
  · cases he
theorem item_good2 {T : List Tk} {i : Int} {x : It} {o : List It} {a : Int} (hi : (tkAt T i).kind ≠ 5) (he : PR.ok [x] (i + 1) = .ok o a) : (tkAt T (a - 1)).kind ≠ 5 := by
  simp only [PR.ok.injEq] at he
  obtain ⟨rfl, rfl⟩ := he
  exact last_of hi (by omega)
theorem atomP_good2 (T : List Tk) (prop : Bool) (i : Int) (o : List It) (a : Int) (hi : (tkAt T i).kind ≠ 5) (he : atomP T prop i = .ok o a) : (tkAt T (a - 1)).kind ≠ 5 := by
  unfold atomP at he
  split at he
  · exact namedP_good2 _ _ _ _ _ he
  split at he
  · exact namedP_good2 _ _ _ _ _ he
  split at he
  · exact item_good2 hi he
  split at he
  · exact item_good2 hi he
  split at he
  · cases he
  split at he
  · exact namedP_good2 _ _ _ _ _ he
  split at he
  · exact didP_good2 _ _ _ _ he
  split at he
  · exact item_good2 hi he
  split at he
  · exact item_good2 hi he
  · cases he
theorem untilP_good2 {T : List Tk} {form : Int → PR} (op i : Int) (o : List It) (a : Int) (he : untilP T form op i = .ok o a) : (tkAt T (a - 1)).kind ≠ 5 := by
  unfold untilP at he
  obtain ⟨h1, he⟩ := need_ok he
  obtain ⟨o1, b, hf, he⟩ := also_ok he
  obtain ⟨h2, he⟩ := need_ok he
  obtain ⟨o2, d, hf2, he⟩ := also_ok he
  obtain ⟨h3, he⟩ := need_ok he
  simp only [PR.ok.injEq] at he
  obtain ⟨rfl, rfl⟩ := he
  exact last_of (isTk_not h3 (by decide)) (by omega)
theorem signP_good2 {T : List Tk} {prop : Bool} {sg form : Int → PR} (hs : Good2 T sg) : Good2 T (signP T prop sg form) := by
  intro i o a he
  unfold signP at he
  split at he
  · obtain ⟨o1, b, h2, he⟩ := also_ok he
    obtain ⟨h3, he⟩ := need_ok he
    simp only [PR.ok.injEq] at he
    obtain ⟨rfl, rfl⟩ := he
    exact last_of (isTk_not h3 (by decide)) (by omega)
  split at he
  · exact compP_good2 T i o a he
  rename_i hk
  have g0 : (tkAt T i).kind ≠ 5 := by omega
  split at he
  · obtain ⟨o1, b, h2, he⟩ := also_ok he
    simp only [PR.ok.injEq] at he
    obtain ⟨rfl, rfl⟩ := he
    exact hs _ _ _ h2
  split at he
  · cases he
  split at he
  · exact untilP_good2 _ _ _ _ he
  split at he
  · exact untilP_good2 _ _ _ _ he
  split at he
  · exact atomP_good2 T prop i o a g0 he
  · obtain ⟨o1, b, h2, he⟩ := also_ok he
    simp only [PR.ok.injEq] at he
    obtain ⟨rfl, rfl⟩ := he
    exact hs _ _ _ h2
theorem formP_good2 {T : List Tk} {sg form : Int → PR} (hs : Good2 T sg) (hf : Good2 T form) : Good2 T (formP T sg form) := by
  intro i o a he
  unfold formP at he
  obtain ⟨o1, b, h1, he⟩ := also_ok he
  have g1 := rowsP_good2 (rowsP_good2 hs wAnd 16) wOr 17 _ _ _ h1
  split at he
  · obtain ⟨o2, c, h2, he⟩ := also_ok he
    simp only [PR.ok.injEq] at he
    obtain ⟨rfl, rfl⟩ := he
    exact hf _ _ _ h2
  · simp only [PR.ok.injEq] at he
    obtain ⟨rfl, rfl⟩ := he
    exact g1
theorem both_good2 (T : List Tk) (prop : Bool) : ∀ n, Good2 T (bothP T prop n).1 ∧ Good2 T (bothP T prop n).2
  | 0 => ⟨fun i o a h => (by have h : badP T i 5 = .ok o a := h; cases h), fun i o a h => (by have h : badP T i 5 = .ok o a := h; cases h)⟩
  | n + 1 => by
    have ih := both_good2 T prop n
    have hs := signP_good2 (prop := prop) (form := (bothP T prop n).2) ih.1
    exact ⟨hs, formP_good2 hs ih.2⟩

/-- what is wrong has a number -/
def Good3 (one : Int → PR) : Prop := ∀ i e l c, one i = .bad e l c → e ≠ 0
theorem also_no {p : PR} {f : List It → Int → PR} {e l c : Int} (h : p.also f = .bad e l c) : p = .bad e l c ∨ ∃ o1 a1, p = .ok o1 a1 ∧ f o1 a1 = .bad e l c := by
  cases p with
  | ok o1 a1 => exact .inr ⟨o1, a1, rfl, h⟩
  | bad er l' c' => exact .inl h
theorem badP_no {T : List Tk} {i er e l c : Int} (h : badP T i er = .bad e l c) (h0 : er ≠ 0) : e ≠ 0 := by
  unfold badP at h
  simp only [PR.bad.injEq] at h
  omega
theorem need_no {T : List Tk} {i kind : Int} {s : ByteArray} {f : Int → PR} {e l c : Int} (h : needP T i kind s f = .bad e l c) : e ≠ 0 ∨ f (i + 1) = .bad e l c := by
  unfold needP at h
  split at h
  · exact .inr h
  · exact .inl (badP_no h (by decide))
theorem rowP_no {T : List Tk} {one : Int → PR} (h : Good3 one) (wd : ByteArray) (op : Int) : ∀ (k : Nat) (i : Int) (out : List It) (e l c : Int), rowP T one wd op k i out = .bad e l c → e ≠ 0
  | 0, i, out, e, l, c, he => by cases he
  | k + 1, i, out, e, l, c, he => by
    rw [rowP] at he
    split at he
    · rcases also_no he with he | ⟨o1, a1, _, he⟩
      · exact h _ _ _ _ he
      · exact rowP_no h wd op k _ _ _ _ _ he
    · cases he
theorem rowsP_no {T : List Tk} {one : Int → PR} (h : Good3 one) (wd : ByteArray) (op : Int) : Good3 (rowsP T one wd op) := by
  intro i e l c he
  rcases also_no he with he | ⟨o1, a1, _, he⟩
  · exact h _ _ _ _ he
  · exact rowP_no h wd op _ _ _ _ _ _ he
theorem compP_no (T : List Tk) : Good3 (compP T) := by
  intro i e l c he
  unfold compP at he
  repeat' split at he
  all_goals first | exact badP_no he (by decide) | cases he
theorem namedP_no (T : List Tk) (i op e l c : Int) (he : namedP T i op = .bad e l c) : e ≠ 0 := by
  unfold namedP at he
  split at he
  · cases he
  · exact badP_no he (by decide)
theorem didP_no (T : List Tk) (i e l c : Int) (he : didP T i = .bad e l c) : e ≠ 0 := by
  unfold didP at he
  repeat' split at he
  all_goals first | exact badP_no he (by decide) | cases he
theorem atomP_no (T : List Tk) (prop : Bool) (i e l c : Int) (he : atomP T prop i = .bad e l c) : e ≠ 0 := by
  unfold atomP at he
  repeat' split at he
  all_goals first | exact badP_no he (by decide) | exact namedP_no _ _ _ _ _ _ he | exact didP_no _ _ _ _ _ he | cases he
theorem untilP_no {T : List Tk} {form : Int → PR} (h : Good3 form) (op i e l c : Int) (he : untilP T form op i = .bad e l c) : e ≠ 0 := by
  unfold untilP at he
  rcases need_no he with he | he
  · exact he
  rcases also_no he with he | ⟨o1, a1, _, he⟩
  · exact h _ _ _ _ he
  rcases need_no he with he | he
  · exact he
  rcases also_no he with he | ⟨o2, a2, _, he⟩
  · exact h _ _ _ _ he
  rcases need_no he with he | he
  · exact he
  cases he
theorem signP_no {T : List Tk} {prop : Bool} {sg form : Int → PR} (hs : Good3 sg) (hf : Good3 form) : Good3 (signP T prop sg form) := by
  intro i e l c he
  unfold signP at he
  split at he
  · rcases also_no he with he | ⟨o1, a1, _, he⟩
    · exact hf _ _ _ _ he
    rcases need_no he with he | he
    · exact he
    cases he
  split at he
  · exact compP_no T i e l c he
  split at he
  · rcases also_no he with he | ⟨o1, a1, _, he⟩
    · exact hs _ _ _ _ he
    cases he
  split at he
  · exact badP_no he (by decide)
  split at he
  · exact untilP_no hf _ _ _ _ _ he
  split at he
  · exact untilP_no hf _ _ _ _ _ he
  split at he
  · exact atomP_no T prop i e l c he
  · rcases also_no he with he | ⟨o1, a1, _, he⟩
    · exact hs _ _ _ _ he
    cases he
theorem formP_no {T : List Tk} {sg form : Int → PR} (hs : Good3 sg) (hf : Good3 form) : Good3 (formP T sg form) := by
  intro i e l c he
  unfold formP at he
  rcases also_no he with he | ⟨o1, a1, _, he⟩
  · exact rowsP_no (rowsP_no hs wAnd 16) wOr 17 _ _ _ _ he
  split at he
  · rcases also_no he with he | ⟨o2, a2, _, he⟩
    · exact hf _ _ _ _ he
    cases he
  · cases he
theorem both_no (T : List Tk) (prop : Bool) : ∀ n, Good3 (bothP T prop n).1 ∧ Good3 (bothP T prop n).2
  | 0 => ⟨fun i e l c h => badP_no (show badP T i 5 = .bad e l c from h) (by decide), fun i e l c h => badP_no (show badP T i 5 = .bad e l c from h) (by decide)⟩
  | n + 1 => by
    have ih := both_no T prop n
    have hs := signP_no (T := T) (prop := prop) ih.1 ih.2
    exact ⟨hs, formP_no hs ih.2⟩

end Go.Proofs.YtignjhbajjephaaGreatDoor
