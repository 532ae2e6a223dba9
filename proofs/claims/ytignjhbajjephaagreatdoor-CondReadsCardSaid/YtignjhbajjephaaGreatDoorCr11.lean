/- Reading of slices, and Sorted and Gap of warderref03. Contracts of warderref05: tok, bad, is, word, index. Contract of warderref05.also. -/
import Derived.Test.YtignjhbajjephaaGreatDoorCr02
import Derived.Test.YtignjhbajjephaaGreatDoorCr10

namespace Go.Proofs.YtignjhbajjephaaGreatDoor
open Go.RowKit

theorem Reads.len {w : World} {v : Value} {xs : List Value} (h : Reads w v xs) : ∃ ad cap, v = .slice ad xs.length cap ∧ xs.length ≤ maxLen := by
  rcases h with ⟨ad, cap, rfl, rfl⟩ | ⟨b, off, cap, rfl, _, hm, _⟩
  · exact ⟨ad, cap, rfl, Nat.zero_le _⟩
  · exact ⟨_, cap, rfl, hm⟩
theorem Reads.at {w : World} {ad : Option Addr} {n cap : Nat} {xs : List Value} (h : Reads w (.slice ad n cap) xs) (hn : 0 < n) : ∃ b off, ad = some ⟨b, off, none⟩ ∧ ∀ t x, xs[t]? = some x → w.cell? ⟨b, off + t, none⟩ = some x := by
  rcases h with ⟨ad', cap', e, _⟩ | ⟨b, off, cap', e, _, _, hc⟩
  · cases e; omega
  · cases e; exact ⟨b, off, rfl, hc⟩

/-- one step of Sorted's inner loop -/
def stepS (x : Int) (s : List Int × Bool) (o : Int) : List Int × Bool :=
  (if o = x then (if s.2 = false ∧ x ≤ o then s.1 ++ [x] else s.1) else (if s.2 = false ∧ x ≤ o then s.1 ++ [x] else s.1) ++ [o], s.2 || decide (x ≤ o))
def innS (x : Int) (l : List Int) : List Int × Bool := l.foldl (stepS x) ([], false)
def insS (x : Int) (l : List Int) : List Int := if (innS x l).2 then (innS x l).1 else (innS x l).1 ++ [x]
def sortS (l : List Int) : List Int := l.foldl (fun out x => insS x out) []

theorem innS_succ (x : Int) (l : List Int) (k : Nat) (o : Int) (h : l[k]? = some o) : innS x (l.take (k + 1)) = stepS x (innS x (l.take k)) o := by
  obtain ⟨hk, rfl⟩ := List.getElem?_eq_some_iff.1 h
  rw [List.take_succ_eq_append_getElem hk, innS, List.foldl_append]; rfl
theorem sortS_succ (l : List Int) (k : Nat) (x : Int) (h : l[k]? = some x) : sortS (l.take (k + 1)) = insS x (sortS (l.take k)) := by
  obtain ⟨hk, rfl⟩ := List.getElem?_eq_some_iff.1 h
  rw [List.take_succ_eq_append_getElem hk, sortS, List.foldl_append]; rfl
theorem stepS_len (x : Int) (s : List Int × Bool) (o : Int) : (stepS x s o).1.length + s.2.toNat ≤ s.1.length + 1 + (stepS x s o).2.toNat := by
  unfold stepS
  cases hs : s.2 <;> by_cases h : x ≤ o <;> by_cases h2 : o = x <;> simp [h, h2]
theorem innS_len (x : Int) (l : List Int) : (innS x l).1.length ≤ l.length + (innS x l).2.toNat := by
  have H : ∀ (l : List Int) (s : List Int × Bool), (l.foldl (stepS x) s).1.length + s.2.toNat ≤ s.1.length + l.length + (l.foldl (stepS x) s).2.toNat := by
    intro l
    induction l with
    | nil => intro s; simp
    | cons o l ih =>
      intro s
      have h1 := ih (stepS x s o)
      have h2 := stepS_len x s o
      simp only [List.foldl_cons, List.length_cons]
      omega
  have h := H l ([], false)
  simpa [innS] using h
theorem insS_len (x : Int) (l : List Int) : (insS x l).length ≤ l.length + 1 := by
  have := innS_len x l
  unfold insS
  split <;> rename_i h
  · rw [h] at this; exact this
  · simp [h] at this; simp; omega
theorem sortS_len (l : List Int) : (sortS l).length ≤ l.length := by
  have H : ∀ (l acc : List Int), (l.foldl (fun out x => insS x out) acc).length ≤ acc.length + l.length := by
    intro l
    induction l with
    | nil => intro acc; simp
    | cons x l ih =>
      intro acc
      have h1 := ih (insS x acc)
      have h2 := insS_len x acc
      simp only [List.foldl_cons, List.length_cons]; omega
  simpa [sortS] using H l []

/-- steps from a number to another, so many at most -/
def gapZ (a b many : Int) : Int := max 0 (min many (b - a - 1))

end Go.Proofs.YtignjhbajjephaaGreatDoor

namespace Go.Proofs.YtignjhbajjephaaGreatDoor
open Go.RowKit

set_option maxHeartbeats 1000000 in
theorem rctok_any {w : World} {B : Nat} {lv : Value} {T : List Tk} (h : TkIn w B lv T) (i : Int) :
    Calls Tryz.prog 21 #[lv, .int .i64 i] w fun e w' => e = .returned (tokV (tkAt T i)) ∧ Below w.heap.size w w' := by
  have h' := h
  obtain ⟨ad, cap, hv, hl, _⟩ := h'
  have hc : i < 0 ∨ (0 ≤ i ∧ (T.length : Int) ≤ i) ∨ ∃ k : Nat, i = k ∧ k < T.length := by
    by_cases h0 : i < 0
    · exact .inl h0
    · by_cases h1 : (T.length : Int) ≤ i
      · exact .inr (.inl ⟨by omega, h1⟩)
      · exact .inr (.inr ⟨i.toNat, by omega, by omega⟩)
  rcases hc with h0 | ⟨h0, h1⟩ | ⟨k, rfl, hk⟩
  · have HN : Hid (tkAt T i = noTk) := by unfold Hid tkAt; rw [if_pos h0]
    subst hv
    clear h
    go_enter Tryz.func21, Tryz.ntmps21
    go_wp2
    exact bodyPost_ret (v := .agg #[.int .i64 5, .string ⟨#[]⟩, .int .i64 0, .int .i64 0, .int .i64 0]) (by simp [results, Tryz.results21, go_sem]) rfl ⟨by rw [HN.out]; rfl, (Below.refl _ _).alloc (Nat.le_refl _) _⟩
  · have HN : Hid (tkAt T i = noTk) := by
      unfold Hid
      obtain ⟨k, rfl⟩ := Int.eq_ofNat_of_zero_le h0
      exact tkAt_far (by omega)
    subst hv
    clear h
    go_enter Tryz.func21, Tryz.ntmps21
    go_wp2
    exact bodyPost_ret (v := .agg #[.int .i64 5, .string ⟨#[]⟩, .int .i64 0, .int .i64 0, .int .i64 0]) (by simp [results, Tryz.results21, go_sem]) rfl ⟨by rw [HN.out]; rfl, (Below.refl _ _).alloc (Nat.le_refl _) _⟩
  · obtain ⟨x, hx⟩ : ∃ x, T[k]? = some x := ⟨_, List.getElem?_eq_getElem hk⟩
    have HN := Lib.hid (tkAt_some hx)
    obtain ⟨g, off, cap2, hv2, hgB, hgw, x0, x1, x2, x3, x4⟩ := h.at hx
    rw [hv2]
    have hk2 : (k : Int) < (T.length : Int) := by omega
    clear h hv hv2 hx
    go_enter Tryz.func21, Tryz.ntmps21
    go_wp2
    exact bodyPost_ret (v := tokV x) (by simp [results, Tryz.results21, go_sem, tokV]) rfl ⟨by rw [HN.out], (Below.refl _ _).alloc (Nat.le_refl _) _⟩

set_option maxHeartbeats 1000000 in
theorem rcbad_any {w : World} {B : Nat} {lv : Value} {T : List Tk} (h : TkIn w B lv T) (hB : B ≤ w.heap.size) (i er : Int) :
    Calls Tryz.prog 86 #[lv, .int .i64 i, .int .i64 er] w fun e w' => e = .returned (.agg #[.slice none 0 0, .int .i64 0, .int .i64 er, .int .i64 (tkAt T i).line, .int .i64 (tkAt T i).col]) ∧ Below w.heap.size w w' := by
  obtain ⟨x, hx⟩ : ∃ x, tkAt T i = x := ⟨_, rfl⟩
  have HX := Lib.hid hx
  rw [hx]
  have hal := (Below.refl w.heap.size w).alloc (Nat.le_refl _) (.cells #[.slice none 0 0, .int .i64 0, .int .i64 0, .int .i64 0, .int .i64 0] 66)
  have HT := Lib.hid (rctok_any (h.below (hal.mono hB)) i)
  have HB0 := Lib.hid hal
  have hq : (w.alloc (.cells #[.slice none 0 0, .int .i64 0, .int .i64 0, .int .i64 0, .int .i64 0] 66)).heap[w.heap.size]? = some (.cells #[.slice none 0 0, .int .i64 0, .int .i64 0, .int .i64 0, .int .i64 0] 66 (0, 0)) := heap_alloc_new w _
  have HQ := Lib.hid hq
  have hfd : ∀ w : World, (Instr.field 43 (.agg #[.int .i64 x.kind, .string x.text, .int .i64 x.num, .int .i64 x.line, .int .i64 x.col]) 3).run Tryz.prog w = .ok (.agg #[.int .i64 x.line, .int .i64 x.col]) w := fun _ => by kernel_rfl
  clear h hal hq hx
  go_enter Tryz.func86, Tryz.ntmps86
  go_wp2_with fail
  refine HT.out.mono ?_
  rintro e w1 ⟨rfl, hb1⟩
  rw [HX.out]
  unfold tokV
  have hq1 : w1.heap[w.heap.size]? = _ := (hb1.block _ (by simp)).trans HQ.out
  have c0 : w1.cell? ⟨w.heap.size, 0, none⟩ = some (.slice none 0 0) := by simp [World.cell?, hq1]
  have c1 : w1.cell? ⟨w.heap.size, 1, none⟩ = some (.int .i64 0) := by simp [World.cell?, hq1]
  have c2 : w1.cell? ⟨w.heap.size, 2, none⟩ = some (.int .i64 0) := by simp [World.cell?, hq1]
  have c3 : w1.cell? ⟨w.heap.size, 3, none⟩ = some (.int .i64 0) := by simp [World.cell?, hq1]
  have c4 : w1.cell? ⟨w.heap.size, 4, none⟩ = some (.int .i64 0) := by simp [World.cell?, hq1]
  have z0 : w1.frozen? ⟨w.heap.size, 0, none⟩ = false := by simp [World.frozen?, hq1]
  have z1 : w1.frozen? ⟨w.heap.size, 1, none⟩ = false := by simp [World.frozen?, hq1]
  have z2 : w1.frozen? ⟨w.heap.size, 2, none⟩ = false := by simp [World.frozen?, hq1]
  have z3 : w1.frozen? ⟨w.heap.size, 3, none⟩ = false := by simp [World.frozen?, hq1]
  have z4 : w1.frozen? ⟨w.heap.size, 4, none⟩ = false := by simp [World.frozen?, hq1]
  have HB := Lib.hid (HB0.out.trans (hb1.mono HB0.out.size))
  clear hb1 hq1
  go_wp2
  exact bodyPost_ret (v := .agg #[.slice none 0 0, .int .i64 0, .int .i64 er, .int .i64 x.line, .int .i64 x.col]) (by simp [results, Tryz.results86, go_sem, c0, c1, c2, c3, c4]) rfl ⟨rfl, below_tok HB.out (Nat.le_refl _) _ _ _ _ _⟩

set_option maxHeartbeats 1000000 in
theorem rcis_any {w : World} {B : Nat} {lv : Value} {T : List Tk} (h : TkIn w B lv T) (i kind : Int) (s : ByteArray) :
    Calls Tryz.prog 49 #[lv, .int .i64 i, .int .i64 kind, .string s] w fun e w' => e = .returned (.bool (isTk T i kind s)) ∧ Below w.heap.size w w' := by
  have HT := Lib.hid (rctok_any h i)
  obtain ⟨x, hx⟩ : ∃ x, tkAt T i = x := ⟨_, rfl⟩
  have HX := Lib.hid hx
  have HI : Hid (isTk T i kind s = (decide (x.kind = kind) && decide (x.text = s))) := by unfold Hid isTk; rw [hx]
  clear h hx
  by_cases hk : x.kind = kind
  · have hkb : (x.kind == kind) = true := by rw [beq_iff_eq]; exact hk
    by_cases ht : x.text = s
    · have htb : (x.text.toList == s.toList) = true := by rw [bytes_beq]; exact decide_eq_true ht
      have HF : Hid (isTk T i kind s = true) := by unfold Hid; rw [HI.out, decide_eq_true hk, decide_eq_true ht]; rfl
      clear hk ht
      go_enter Tryz.func49, Tryz.ntmps49
      go_wp2_with fail
      refine HT.out.mono ?_
      rintro e w1 ⟨rfl, hb1⟩
      rw [HX.out]
      unfold tokV
      have HB1 := Lib.hid (hb1.alloc hb1.size (.cells #[.int .i64 x.kind, .string x.text, .int .i64 x.num, .int .i64 x.line, .int .i64 x.col] 43))
      clear hb1
      go_wp2
      go_ret
      exact ⟨ret_bool HF.out.symm, HB1.out⟩
    · have htb : (x.text.toList == s.toList) = false := by rw [bytes_beq]; exact decide_eq_false ht
      have HF : Hid (isTk T i kind s = false) := by unfold Hid; rw [HI.out, decide_eq_false ht, Bool.and_false]
      clear hk ht
      go_enter Tryz.func49, Tryz.ntmps49
      go_wp2_with fail
      refine HT.out.mono ?_
      rintro e w1 ⟨rfl, hb1⟩
      rw [HX.out]
      unfold tokV
      have HB1 := Lib.hid (hb1.alloc hb1.size (.cells #[.int .i64 x.kind, .string x.text, .int .i64 x.num, .int .i64 x.line, .int .i64 x.col] 43))
      clear hb1
      go_wp2
      go_ret
      exact ⟨ret_bool HF.out.symm, HB1.out⟩
  · have hkb : (x.kind == kind) = false := beq_eq_false_iff_ne.2 hk
    have HF : Hid (isTk T i kind s = false) := by unfold Hid; rw [HI.out, decide_eq_false hk, Bool.false_and]
    clear hk
    go_enter Tryz.func49, Tryz.ntmps49
    go_wp2_with fail
    refine HT.out.mono ?_
    rintro e w1 ⟨rfl, hb1⟩
    rw [HX.out]
    unfold tokV
    have HB1 := Lib.hid (hb1.alloc hb1.size (.cells #[.int .i64 x.kind, .string x.text, .int .i64 x.num, .int .i64 x.line, .int .i64 x.col] 43))
    clear hb1
    go_wp2
    go_ret
    exact ⟨ret_bool HF.out.symm, HB1.out⟩

/-- a word's value: nothing where none stands -/
def wordV (x : Tk) : Value := if isWord x then .agg #[.string (wordName x), .int .i64 (wordNum x)] else .agg #[.string ⟨#[]⟩, .int .i64 0]
theorem wordV_yes {x : Tk} (h : isWord x = true) : wordV x = .agg #[.string (wordName x), .int .i64 (wordNum x)] := if_pos h
theorem wordV_no {x : Tk} (h : isWord x = false) : wordV x = .agg #[.string ⟨#[]⟩, .int .i64 0] := if_neg (by rw [h]; simp)

set_option maxHeartbeats 1000000 in
theorem rcword_any (x : Tk) (w : World) :
    Calls Tryz.prog 102 #[tokV x] w fun e w' => e = .returned (.tuple #[wordV x, .bool (isWord x)]) ∧ Below w.heap.size w w' := by
  have hb : Below w.heap.size w ((w.alloc (.cells #[.int .i64 x.kind, .string x.text, .int .i64 x.num, .int .i64 x.line, .int .i64 x.col] 43)).alloc (.cells #[.string ⟨#[]⟩, .int .i64 0] 34)) := ((Below.refl _ w).alloc (Nat.le_refl _) _).alloc (by simp) _
  have HB := Lib.hid (show ∀ n m, Below w.heap.size w ((w.alloc (.cells #[.int .i64 x.kind, .string x.text, .int .i64 x.num, .int .i64 x.line, .int .i64 x.col] 43)).alloc (.cells #[.string n, .int .i64 m] 34)) from fun n m => ((Below.refl _ w).alloc (Nat.le_refl _) _).alloc (by simp) _)
  clear hb
  unfold tokV
  by_cases h1 : x.kind = 1
  · have hk1 : (x.kind == 1) = true := by rw [beq_iff_eq]; exact h1
    have HW : Hid (isWord x = true ∧ wordV x = .agg #[.string x.text, .int .i64 0]) := by
      have hw : isWord x = true := by unfold isWord; rw [decide_eq_true h1]; rfl
      refine ⟨hw, ?_⟩
      rw [wordV_yes hw]; unfold wordName wordNum; rw [if_pos h1, if_pos h1]
    clear h1
    go_enter Tryz.func102, Tryz.ntmps102
    go_wp2
    exact bodyPost_ret (v := .tuple #[.agg #[.string x.text, .int .i64 0], .bool true]) (by simp [results, Tryz.results102, go_sem]) rfl ⟨by rw [HW.out.1, HW.out.2], HB.out _ _⟩
  · have hk1 : (x.kind == 1) = false := beq_eq_false_iff_ne.2 h1
    by_cases h3 : x.kind = 3
    · have hk3 : (x.kind == 3) = true := by rw [beq_iff_eq]; exact h3
      have HW : Hid (isWord x = true ∧ wordV x = .agg #[.string ⟨#[]⟩, .int .i64 x.num]) := by
        have hw : isWord x = true := by unfold isWord; rw [decide_eq_true h3, Bool.or_true]
        refine ⟨hw, ?_⟩
        rw [wordV_yes hw]; unfold wordName wordNum; rw [if_neg h1, if_neg h1]
      clear h1 h3
      go_enter Tryz.func102, Tryz.ntmps102
      go_wp2
      exact bodyPost_ret (v := .tuple #[.agg #[.string ⟨#[]⟩, .int .i64 x.num], .bool true]) (by simp [results, Tryz.results102, go_sem]) rfl ⟨by rw [HW.out.1, HW.out.2], HB.out _ _⟩
    · have hk3 : (x.kind == 3) = false := beq_eq_false_iff_ne.2 h3
      have HW : Hid (isWord x = false ∧ wordV x = .agg #[.string ⟨#[]⟩, .int .i64 0]) := by
        have hw : isWord x = false := by unfold isWord; rw [decide_eq_false h1, decide_eq_false h3]; rfl
        exact ⟨hw, wordV_no hw⟩
      clear h1 h3
      go_enter Tryz.func102, Tryz.ntmps102
      go_wp2
      exact bodyPost_ret (v := .tuple #[.agg #[.string ⟨#[]⟩, .int .i64 0], .bool false]) (by simp [results, Tryz.results102, go_sem]) rfl ⟨by rw [HW.out.1, HW.out.2], HB.out _ _⟩

def strs (L : List ByteArray) : List Value := L.map Value.string
/-- where a text stands in a list -/
def idxN (s : ByteArray) : List ByteArray → Nat → Option Nat
  | [], _ => none
  | x :: r, k => if x = s then some k else idxN s r (k + 1)
def idxP (L : List ByteArray) (s : ByteArray) : Int := match idxN s L 0 with | some k => k | none => -1
theorem idxN_drop (s : ByteArray) (L : List ByteArray) (k : Nat) (x : ByteArray) (h : L[k]? = some x) : idxN s (L.drop k) k = if x = s then some k else idxN s (L.drop (k + 1)) (k + 1) := by
  obtain ⟨hk, rfl⟩ := List.getElem?_eq_some_iff.1 h
  rw [List.drop_eq_getElem_cons hk, idxN]

set_option maxHeartbeats 1000000 in
theorem rcindex_any (v : Value) (L : List ByteArray) (s : ByteArray) (w : World) (hv : Reads w v (strs L)) (hl : L.length ≤ 1000) :
    Calls Tryz.prog 88 #[v, .string s] w fun e w' => e = .returned (.int .i64 (idxP L s)) ∧ w = w' := by
  obtain ⟨ad, cap, rfl, -⟩ := hv.len
  have hls : (strs L).length = L.length := by simp [strs]
  rw [hls] at hv ⊢
  obtain ⟨n, hn⟩ : ∃ n, L.length = n := ⟨_, rfl⟩
  rw [hn] at hv hl ⊢
  have HN := Lib.hid hn
  have HV := Lib.hid hv
  clear hn hv hls
  go_enter Tryz.func88, Tryz.ntmps88
  go_wp2
  go_loop [5] (fun i => ∃ k : Nat, i = .int .i64 k ∧ k ≤ n ∧ Hid (idxN s L 0 = idxN s (L.drop k) k)) (fun i => n - (intOf i).toNat)
  case atStart => exact ⟨0, rfl, Nat.zero_le _, rfl⟩
  case round =>
    obtain ⟨k, rfl, hk, HI⟩ := hrel
    by_cases hlt : k < n
    · have p1 : (k : Int) < (n : Int) := by omega
      obtain ⟨x, hx⟩ : ∃ x, L[k]? = some x := ⟨_, List.getElem?_eq_getElem (by rw [HN.out]; exact hlt)⟩
      obtain ⟨b, o, rfl, hc⟩ := HV.out.at (by omega)
      have c1 : w.cell? ⟨b, o + k, none⟩ = some (.string x) := hc k _ (by simp [strs, hx])
      have HD := Lib.hid (idxN_drop s L k x hx)
      clear hx hc
      by_cases he : x = s
      · have hb : (x.toList == s.toList) = true := by rw [bytes_beq]; exact decide_eq_true he
        have HF : Hid (idxP L s = k) := by unfold Hid idxP; rw [HI.out, HD.out, if_pos he]
        clear he
        go_wp2
        go_ret
        exact ⟨ret_int HF.out.symm, rfl⟩
      · have hb : (x.toList == s.toList) = false := by rw [bytes_beq]; exact decide_eq_false he
        have HF : Hid (idxN s L 0 = idxN s (L.drop (k + 1)) (k + 1)) := by unfold Hid; rw [HI.out, HD.out, if_neg he]
        clear he
        go_wp2
        go_round
        case rel => exact ⟨k + 1, by go_num, by omega, HF⟩
        case measure => simp [intOf]; omega
    · obtain rfl : k = n := by omega
      have HF : Hid (idxP L s = -1) := by unfold Hid idxP; rw [HI.out, ← HN.out, List.drop_length]; rfl
      go_wp2
      go_ret
      exact ⟨ret_int HF.out.symm, rfl⟩

end Go.Proofs.YtignjhbajjephaaGreatDoor

namespace Go.Proofs.YtignjhbajjephaaGreatDoor
open Go.RowKit

/-- what was read, in a block of its own -/
def PrB (w : World) (b : Nat) (v : Value) (a e l c : Int) : Prop := w.heap[b]? = some (.cells #[v, .int .i64 a, .int .i64 e, .int .i64 l, .int .i64 c] 66 (0, 0))
theorem PrB.facts {w : World} {b : Nat} {v : Value} {a e l c : Int} (h : PrB w b v a e l c) :
    w.cell? ⟨b, 0, none⟩ = some v ∧ w.cell? ⟨b, 1, none⟩ = some (.int .i64 a) ∧ w.cell? ⟨b, 2, none⟩ = some (.int .i64 e) ∧ w.cell? ⟨b, 3, none⟩ = some (.int .i64 l) ∧ w.cell? ⟨b, 4, none⟩ = some (.int .i64 c) := by
  unfold PrB at h
  refine ⟨?_, ?_, ?_, ?_, ?_⟩ <;> simp [World.cell?, h]
theorem PrB.free {w : World} {b : Nat} {v : Value} {a e l c : Int} (h : PrB w b v a e l c) :
    w.frozen? ⟨b, 0, none⟩ = false ∧ w.frozen? ⟨b, 1, none⟩ = false ∧ w.frozen? ⟨b, 2, none⟩ = false ∧ w.frozen? ⟨b, 3, none⟩ = false ∧ w.frozen? ⟨b, 4, none⟩ = false := by
  unfold PrB at h
  refine ⟨?_, ?_, ?_, ?_, ?_⟩ <;> simp [World.frozen?, h]
theorem PrB.lt {w : World} {b : Nat} {v : Value} {a e l c : Int} (h : PrB w b v a e l c) : b < w.heap.size := (Array.getElem?_eq_some_iff.1 h).1
theorem PrB.below {w w' : World} {b : Nat} {v : Value} {a e l c : Int} (h : PrB w b v a e l c) (hb : Below w.heap.size w w') : PrB w' b v a e l c := (hb.block b h.lt).trans h
theorem PrB.alloc {w : World} {b : Nat} {v : Value} {a e l c : Int} (h : PrB w b v a e l c) (o : Obj) : PrB (w.alloc o) b v a e l c := (Below.heap_alloc _ _ _ h.lt).trans h
theorem PrB.drew {w : World} {b : Nat} {v : Value} {a e l c : Int} (h : PrB w b v a e l c) : PrB w.drew b v a e l c := h
theorem PrB.grown {w w' : World} {b : Nat} {v : Value} {a e l c : Int} {row : Option Nat} (h : PrB w b v a e l c) (hg : w.grownBy w' row) (hne : row ≠ some b) : PrB w' b v a e l c := (hg.block b h.lt (Ne.symm hne)).trans h
theorem PrB.over {w : World} {b k j : Nat} {v : Value} {a e l c : Int} (h : PrB w b v a e l c) (hne : b ≠ k) (u : Value) : PrB (w.setCell ⟨k, j, none⟩ u) b v a e l c := (Below.heap_setCell _ _ _ _ (by show b ≠ k; exact hne)).trans h
theorem PrB.stored {w : World} {b : Nat} {v : Value} {a e l c : Int} (h : PrB w b v a e l c) (v2 : Value) (a2 e2 l2 c2 : Int) :
    PrB (((((w.setCell ⟨b, 0, none⟩ v2).setCell ⟨b, 1, none⟩ (.int .i64 a2)).setCell ⟨b, 2, none⟩ (.int .i64 e2)).setCell ⟨b, 3, none⟩ (.int .i64 l2)).setCell ⟨b, 4, none⟩ (.int .i64 c2)) b v2 a2 e2 l2 c2 :=
  heap_setCell_same _ b 4 _ _ (.int .i64 c2) (heap_setCell_same _ b 3 _ _ (.int .i64 l2) (heap_setCell_same _ b 2 _ _ (.int .i64 e2) (heap_setCell_same _ b 1 _ _ (.int .i64 a2) (heap_setCell_same w b 0 _ _ v2 h))))
theorem PrB.row {w : World} {b base n : Nat} {t : TypeId} {sz : Nat} {vr v : Value} {a e l c : Int} {xs : List Value} (h : PrB w b v a e l c) (hr : w.ownsRow base t sz vr n xs) (ht : 66 ≠ t) (v2 : Value) (a2 e2 l2 c2 : Int) :
    (((((w.setCell ⟨b, 0, none⟩ v2).setCell ⟨b, 1, none⟩ (.int .i64 a2)).setCell ⟨b, 2, none⟩ (.int .i64 e2)).setCell ⟨b, 3, none⟩ (.int .i64 l2)).setCell ⟨b, 4, none⟩ (.int .i64 c2)).ownsRow base t sz vr n xs := by
  have s0 := heap_setCell_same w b 0 _ _ v2 h
  have s1 := heap_setCell_same _ b 1 _ _ (.int .i64 a2) s0
  have s2 := heap_setCell_same _ b 2 _ _ (.int .i64 e2) s1
  have s3 := heap_setCell_same _ b 3 _ _ (.int .i64 l2) s2
  exact row_store (row_store (row_store (row_store (row_store hr h ht _ _) s0 ht _ _) s1 ht _ _) s2 ht _ _) s3 ht _ _

/-- the cells of a row that is owned by whoever ended at B, read in whatever world comes of it -/
theorem row_news {w W : World} {base g n cap : Nat} {xs : List Value} (h : w.ownsRow base 36 9 (.slice (some ⟨g, 0, none⟩) n cap) n xs) (hW : Below w.heap.size w W) :
    ∀ j u, xs[j]? = some u → W.cell? ((⟨g, 0, none⟩ : Addr).add j) = some u := by
  intro j u hj
  have hadd : (⟨g, 0, none⟩ : Addr).add j = ⟨g, j, none⟩ := by unfold Addr.add; split <;> simp_all
  have hlt := (h.lt g rfl).2
  have hjn : j < n * 9 := by rw [← h.1]; exact (List.getElem?_eq_some_iff.1 hj).1
  rw [hadd, hW.cell (p := ⟨g, j, none⟩) hlt, h.cellAt j hjn, hj]

end Go.Proofs.YtignjhbajjephaaGreatDoor
