/- Reading of slices, and Sorted and Gap of warderref03. -/
import Derived.Test.YtjmggphnngffjaaKit
namespace Go.Proofs.Ytjmggphnngffjaa
open Go.RowKit

theorem Reads.len {w : World} {v : Value} {xs : List Value} (h : Reads w v xs) : ∃ ad cap, v = .slice ad xs.length cap ∧ xs.length ≤ maxLen := by
  rcases h with ⟨ad, cap, rfl, rfl⟩ | ⟨b, off, cap, rfl, _, hm, _⟩
  · exact ⟨ad, cap, rfl, Nat.zero_le _⟩
  · exact ⟨_, cap, rfl, hm⟩
theorem Reads.at {w : World} {ad : Option Addr} {n cap : Nat} {xs : List Value} (h : Reads w (.slice ad n cap) xs) (hn : 0 < n) : ∃ b off, ad = some ⟨b, off, none⟩ ∧ ∀ t x, xs[t]? = some x → w.cell? ⟨b, off + t, none⟩ = some x := by
  rcases h with ⟨ad', cap', e, _⟩ | ⟨b, off, cap', e, _, _, hc⟩
  · cases e; omega
  · cases e; exact ⟨b, off, rfl, hc⟩

/-- one step of Sorted's inner loop -/
def stepS (x : Int) (s : List Int × Bool) (o : Int) : List Int × Bool :=
  (if o = x then (if s.2 = false ∧ x ≤ o then s.1 ++ [x] else s.1) else (if s.2 = false ∧ x ≤ o then s.1 ++ [x] else s.1) ++ [o], s.2 || decide (x ≤ o))
def innS (x : Int) (l : List Int) : List Int × Bool := l.foldl (stepS x) ([], false)
def insS (x : Int) (l : List Int) : List Int := if (innS x l).2 then (innS x l).1 else (innS x l).1 ++ [x]
def sortS (l : List Int) : List Int := l.foldl (fun out x => insS x out) []

theorem innS_succ (x : Int) (l : List Int) (k : Nat) (o : Int) (h : l[k]? = some o) : innS x (l.take (k + 1)) = stepS x (innS x (l.take k)) o := by
  obtain ⟨hk, rfl⟩ := List.getElem?_eq_some_iff.1 h
  rw [List.take_succ_eq_append_getElem hk, innS, List.foldl_append]; rfl
theorem sortS_succ (l : List Int) (k : Nat) (x : Int) (h : l[k]? = some x) : sortS (l.take (k + 1)) = insS x (sortS (l.take k)) := by
  obtain ⟨hk, rfl⟩ := List.getElem?_eq_some_iff.1 h
  rw [List.take_succ_eq_append_getElem hk, sortS, List.foldl_append]; rfl
theorem stepS_len (x : Int) (s : List Int × Bool) (o : Int) : (stepS x s o).1.length + s.2.toNat ≤ s.1.length + 1 + (stepS x s o).2.toNat := by
  unfold stepS
  cases hs : s.2 <;> by_cases h : x ≤ o <;> by_cases h2 : o = x <;> simp [h, h2]
theorem innS_len (x : Int) (l : List Int) : (innS x l).1.length ≤ l.length + (innS x l).2.toNat := by
  have H : ∀ (l : List Int) (s : List Int × Bool), (l.foldl (stepS x) s).1.length + s.2.toNat ≤ s.1.length + l.length + (l.foldl (stepS x) s).2.toNat := by
    intro l
    induction l with
    | nil => intro s; simp
    | cons o l ih =>
      intro s
      have h1 := ih (stepS x s o)
      have h2 := stepS_len x s o
      simp only [List.foldl_cons, List.length_cons]
      omega
  have h := H l ([], false)
  simpa [innS] using h
theorem insS_len (x : Int) (l : List Int) : (insS x l).length ≤ l.length + 1 := by
  have := innS_len x l
  unfold insS
  split <;> rename_i h
  · rw [h] at this; exact this
  · simp [h] at this; simp; omega
theorem sortS_len (l : List Int) : (sortS l).length ≤ l.length := by
  have H : ∀ (l acc : List Int), (l.foldl (fun out x => insS x out) acc).length ≤ acc.length + l.length := by
    intro l
    induction l with
    | nil => intro acc; simp
    | cons x l ih =>
      intro acc
      have h1 := ih (insS x acc)
      have h2 := insS_len x acc
      simp only [List.foldl_cons, List.length_cons]; omega
  simpa [sortS] using H l []

/-- steps from a number to another, so many at most -/
def gapZ (a b many : Int) : Int := max 0 (min many (b - a - 1))

set_option maxHeartbeats 1000000 in
theorem rgap_any (a b : Int) (m : Nat) (w : World) (ha : -9223372036854775808 ≤ a) (hb : b ≤ 9223372036854775807) (hm : m ≤ 2097151) :
    Calls Try.prog 40 #[.int .i64 a, .int .i64 b, .int .i64 m] w fun e w' => e = .returned (.int .i64 (gapZ a b m)) ∧ w = w' := by
  go_enter Try.func40, Try.ntmps40
  go_wp2
  go_loop [0, 7] (fun x n => ∃ k : Nat, x = .int .i64 (a + k) ∧ n = .int .i64 k ∧ k ≤ m ∧ (k = 0 ∨ a + k < b)) (fun _ n => m - (intOf n).toNat)
  case atStart => exact ⟨0, by simp, rfl, Nat.zero_le _, .inl rfl⟩
  case round =>
    obtain ⟨k, rfl, rfl, hk, hkb⟩ := hrel
    by_cases h1 : k < m
    · by_cases h2 : a + k < b
      · by_cases h3 : a + k + 1 < b
        · have p1 : (k : Int) < (m : Int) := by omega
          go_wp2
          go_round
          case rel => exact ⟨k + 1, by go_num, by go_num, by omega, .inr (by omega)⟩
          case measure => simp [intOf]; omega
        · have p1 : (k : Int) < (m : Int) := by omega
          have H : Hid (gapZ a b m = k) := by unfold Hid gapZ; omega
          go_wp2
          go_ret
          exact ⟨ret_int H.out.symm, rfl⟩
      · have p1 : (k : Int) < (m : Int) := by omega
        have H : Hid (gapZ a b m = k) := by unfold Hid gapZ; omega
        go_wp2
        go_ret
        exact ⟨ret_int H.out.symm, rfl⟩
    · have p1 : ¬ (k : Int) < (m : Int) := by omega
      have H : Hid (gapZ a b m = k) := by unfold Hid gapZ; omega
      go_wp2
      go_ret
      exact ⟨ret_int H.out.symm, rfl⟩

end Go.Proofs.Ytjmggphnngffjaa
