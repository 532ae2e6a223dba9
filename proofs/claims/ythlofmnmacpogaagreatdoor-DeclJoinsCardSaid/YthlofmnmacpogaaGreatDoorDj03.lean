/- Plain: the tokens of two texts, a line's end between. Plain: the statements of two texts, a line's end between, are those of both, but for places. Contract of warderref04.Exact, for two lists of the same items. A slice that reads as statements. -/
import Derived.Test.YthlofmnmacpogaaGreatDoorDj02
import Derived.Test.YthlofmnmacpogaaGreatDoorDe01
import Derived.Test.YthlofmnmacpogaaGreatDoorDf11

namespace Go.Proofs.YthlofmnmacpogaaGreatDoor
open Go.RowKit

def jn (a b : ByteArray) : ByteArray := a ++ ⟨#[10]⟩ ++ b
theorem jn_size (a b : ByteArray) : (jn a b).size = a.size + 1 + b.size := by
  unfold jn
  rw [ByteArray.size_append, ByteArray.size_append]; rfl
theorem jn_list (a b : ByteArray) : (jn a b).data.toList = a.data.toList ++ (10 :: b.data.toList) := by
  unfold jn
  simp [ByteArray.data_append]
theorem ba_len (a : ByteArray) : a.data.toList.length = a.size := by simp
theorem jn_next (a b : ByteArray) : (jn a b).get! (0 + a.size) = 10 := by
  rw [get_list, jn_list, List.getD_eq_getElem?_getD, List.getElem?_append_right (by rw [ba_len]; omega), ba_len, Nat.zero_add, Nat.sub_self]; rfl
theorem take_drop_left {l m : List UInt8} {f t : Nat} (ht : t ≤ l.length) : List.take (t - f) (List.drop f (l ++ m)) = List.take (t - f) (List.drop f l) := by
  by_cases hf : f ≤ l.length
  · rw [List.drop_append_of_le_length hf, List.take_append_of_le_length (by rw [List.length_drop]; omega)]
  · rw [show t - f = 0 by omega]; rfl
theorem jn_left (a b : ByteArray) : Inner a (jn a b) 0 where
  byte := fun k hk => by
    rw [get_list, get_list, jn_list, List.getD_eq_getElem?_getD, List.getD_eq_getElem?_getD, Nat.zero_add, List.getElem?_append_left (by rw [ba_len]; exact hk)]
  next := .inl ⟨by rw [jn_size]; omega, jn_next a b⟩
  cut := fun f t ht => by
    apply ba_ext
    rw [ext_list, ext_list, jn_list, Nat.add_zero, Nat.add_zero]
    exact take_drop_left (by rw [ba_len]; exact ht)
theorem jn_right (a b : ByteArray) : Inner b (jn a b) (a.size + 1) where
  byte := fun k hk => by
    rw [get_list, get_list, jn_list, List.getD_eq_getElem?_getD, List.getD_eq_getElem?_getD, List.getElem?_append_right (by rw [ba_len]; omega), ba_len, show a.size + 1 + k - a.size = k + 1 by omega, List.getElem?_cons_succ]
  next := .inr (by rw [jn_size])
  cut := fun f t ht => by
    apply ba_ext
    rw [ext_list, ext_list, jn_list, show t + (a.size + 1) - (f + (a.size + 1)) = t - f by omega]
    rw [List.drop_append, ba_len, List.drop_eq_nil_of_le (by rw [ba_len]; omega), List.nil_append, show f + (a.size + 1) - a.size = f + 1 by omega]
    rfl

theorem jn_runes (a b : ByteArray) : ∃ Ya x Yb, allR (jn a b) = Ya ++ (x :: Yb) ∧ ShL 0 (allR a) Ya ∧ x.r = 10 ∧ ShL (a.size + 1) (allR b) Yb := by
  have d := dec_ascii (P := jn a b) (p := 0 + a.size) (by rw [jn_next]; decide)
  rw [jn_next] at d
  have hs := jn_size a b
  obtain ⟨Ya, l2, c2, e, hY⟩ := (jn_left a b).runes (a.size - 0) 0 1 1 1 1 (by omega) (by omega)
  obtain ⟨Yb, l4, c4, e2, hY2⟩ := (jn_right a b).runes (b.size - 0) 0 1 1 (nextLine ((10 : UInt8).toNat : Int) l2) (nextCol ((10 : UInt8).toNat : Int) c2) (by omega) (by omega)
  refine ⟨Ya, ⟨((10 : UInt8).toNat : Int), 0 + a.size, 0 + a.size + 1, l2, c2⟩, Yb, ?_, hY, ?_, hY2⟩
  · show restG (decR (jn a b)) (jn a b) (0 + 0) 1 1 = _
    rw [e, restG_cons _ _ _ _ _ (show 0 + a.size < (jn a b).size by omega), d.1, d.2, show 0 + a.size + 1 = a.size + 1 + 0 by omega, e2, restG_nil _ _ _ _ _ (by omega), List.append_nil]
  · rfl

theorem run_er {P : ByteArray} {h1 : ¬ 16384 < (allR P).length} (h : (runT P (allR P) (allR P).length 0 []).er = 3) : (tokRes P).er = 3 := by
  unfold tokRes
  rw [if_neg h1, if_pos (by omega)]
  exact h
/-- the tokens of two texts, a line's end between -/
theorem jn_tok {a b : ByteArray} (ha : a.size ≤ 3000) (hb : b.size ≤ 3000) (ea : (tokRes a).er = 0) (eb : (tokRes b).er = 0) : ∃ Ra Rb, (tokRes a).T = Ra ++ [endTk a] ∧ (tokRes b).T = Rb ++ [endTk b] ∧ (∀ x ∈ Ra, x.kind ≠ 5) ∧ (∀ x ∈ Rb, x.kind ≠ 5) ∧
    ((tokRes (jn a b)).er = 3 ∨ ((tokRes (jn a b)).er = 0 ∧ ∃ A2 B2, TwinL Ra A2 ∧ TwinL Rb B2 ∧ (tokRes (jn a b)).T = A2 ++ B2 ++ [endTk (jn a b)])) := by
  obtain ⟨Ya, x, Yb, e, hA, hx, hB⟩ := jn_runes a b
  have la : (allR a).length ≤ a.size := by have := restG_len (decR a) a 0 1 1; simpa [allR] using this
  have lb : (allR b).length ≤ b.size := by have := restG_len (decR b) b 0 1 1; simpa [allR] using this
  have oka := rnOk a (by omega)
  have okb := rnOk b (by omega)
  have hla := hA.1
  have hlb := hB.1
  have hln : (allR (jn a b)).length = (allR a).length + 1 + (allR b).length := by rw [e, hla, hlb]; simp; omega
  have ex : (allR (jn a b))[(allR a).length]? = some x := by rw [e, hla, List.getElem?_append_right (Nat.le_refl _), Nat.sub_self]; rfl
  have r10 : rAt (allR (jn a b)) (allR a).length = 10 := by rw [rAt_some ex, hx]
  have SA : Shf a (jn a b) (allR a) (allR (jn a b)) 0 0 := ⟨fun j y hy => by
      obtain ⟨z, hz, h1, h2, h3⟩ := hA.2 j y hy
      exact ⟨z, by rw [e, Nat.add_zero, List.getElem?_append_left (List.getElem?_eq_some_iff.1 hz).1]; exact hz, h1, h2, h3⟩,
    .inl r10, (jn_left a b).cut, fun j y hy => (oka.le j j y y (Nat.le_refl _) hy hy).2⟩
  have SB : Shf b (jn a b) (allR b) (allR (jn a b)) ((allR a).length + 1) (a.size + 1) := ⟨fun j y hy => by
      obtain ⟨z, hz, h1, h2, h3⟩ := hB.2 j y hy
      refine ⟨z, ?_, h1, h2, h3⟩
      rw [e, hla, List.getElem?_append_right (by omega), show j + (Ya.length + 1) - Ya.length = j + 1 by omega, List.getElem?_cons_succ]
      exact hz,
    .inr ⟨rAt_none (by omega), by omega⟩, (jn_right a b).cut, fun j y hy => (okb.le j j y y (Nat.le_refl _) hy hy).2⟩
  have ru : ∀ s : ByteArray, (tokRes s).er = 0 → (allR s).length ≤ 16384 → (runT s (allR s) (allR s).length 0 []).er = 0 ∧ (tokRes s).T = (runT s (allR s) (allR s).length 0 []).T ++ [endTk s] := by
    intro s he hl
    unfold tokRes at he ⊢
    rw [if_neg (by omega)] at he ⊢
    by_cases q : (runT s (allR s) (allR s).length 0 []).er ≠ 0
    · rw [if_pos q] at he; exact absurd he q
    · rw [if_neg q]; exact ⟨by omega, rfl⟩
  have ki : ∀ s : ByteArray, (tokRes s).er = 0 → ∀ R, (tokRes s).T = R ++ [endTk s] → ∀ x ∈ R, x.kind ≠ 5 := by
    intro s he R hR y hy
    obtain ⟨R0, hR0, _, _, hk, _⟩ := tokRes_rises s he
    rw [hR0] at hR
    have := (List.append_inj' hR rfl).1
    subst this
    have := hk y hy
    omega
  obtain ⟨ua0, ua1⟩ := ru a ea (by omega)
  obtain ⟨ub0, ub1⟩ := ru b eb (by omega)
  refine ⟨_, _, ua1, ub1, ki a ea _ ua1, ki b eb _ ub1, ?_⟩
  have hcap : ¬ 16384 < (allR (jn a b)).length := by omega
  rcases SA.run_cap [] (allR a).length 0 [] [] (by omega) (by omega) TwinL.nil ua0 (allR (jn a b)).length (by omega) with ⟨k3, T3, hk3, hT3, hr⟩ | h3
  · obtain ⟨k4, rfl⟩ : ∃ q, k3 = q + 1 := ⟨k3 - 1, by omega⟩
    simp only [Nat.add_zero, List.nil_append] at hr
    rw [run_step (by omega) (one_blank r10)] at hr
    rcases SB.run_cap T3 (allR b).length 0 [] [] (by omega) (by omega) TwinL.nil ub0 k4 (by omega) with ⟨k5, T5, hk5, hT5, hr2⟩ | h3
    · rw [Nat.zero_add, List.append_nil] at hr2
      rw [hr2] at hr
      have hend : runT (jn a b) (allR (jn a b)) k5 ((allR b).length + ((allR a).length + 1)) (T3 ++ T5) = ⟨0, 0, 0, (allR b).length + ((allR a).length + 1), T3 ++ T5⟩ := by
        cases k5 with
        | zero => rfl
        | succ k5 => rw [runT, if_neg (by omega)]
      rw [hend] at hr
      refine .inr ⟨?_, T3, T5, hT3, hT5, ?_⟩
      · unfold tokRes
        rw [if_neg hcap, hr]; rfl
      · unfold tokRes
        rw [if_neg hcap, hr]; rfl
    · rw [Nat.zero_add, List.append_nil] at h3
      refine .inl (run_er (h1 := hcap) ?_)
      rw [hr]; exact h3
  · exact .inl (run_er (h1 := hcap) h3)

end Go.Proofs.YthlofmnmacpogaaGreatDoor

namespace Go.Proofs.YthlofmnmacpogaaGreatDoor
open Go.RowKit

theorem oneD_sim {T T' : List Tk} {n d : Int} (A : Agree T T' n d) {i : Int} {x : St} {a : Int} (h : oneD T i = .ok x a) (ha : a ≤ n) : ∃ x', oneD T' (i + d) = .ok x' (a + d) ∧ bareS x' = bareS x := by
  obtain ⟨h0, h1, _, _⟩ := oneD_ok h
  obtain ⟨e0, e1, _⟩ := A.tk i h0 (by omega)
  unfold oneD at h
  split at h
  · cases h
  · rename_i w
    obtain ⟨r, hr⟩ : ∃ r, ruleD T (kindN (tkAt T i).text) (startD T i) = r := ⟨_, rfl⟩
    have hup : i + 1 ≤ r.i := by have := up_rule T (kindN (tkAt T i).text) (startD T i); rw [hr] at this; exact this
    dsimp only at h
    rw [hr] at h
    split at h
    · rename_i he
      injection h with hx hai
      have hm : mayB T 4 sSemi r = true := by
        refine Classical.byContradiction fun hm => ?_
        unfold needD at he
        rw [if_neg hm] at he
        exact failD_no he
      have hn : needD T 4 sSemi r = { r with i := r.i + 1 } := by unfold needD; rw [if_pos hm]
      rw [hn] at hx hai
      have hri : r.i + 1 = a := hai
      have hS : RJ d (startD T i) (startD T' (i + d)) := ⟨by show i + d + 1 = i + 1 + d; omega, by
        show bareS (startD T' (i + d)).x = bareS (startD T i).x
        simp only [startD, bareS, ← e1], rfl, rfl⟩
      have J := sim_rule A (kindN (tkAt T i).text) _ _ hS (by show 0 ≤ i + 1; omega) (by rw [hr]; exact (mayB_is hm).1) (by rw [hr]; omega)
      rw [hr] at J
      obtain ⟨r', hr'⟩ : ∃ r', ruleD T' (kindN (tkAt T i).text) (startD T' (i + d)) = r' := ⟨_, rfl⟩
      rw [hr'] at J
      have hm' : mayB T' 4 sSemi r' = true := by rw [mayB_sim A 4 sSemi J (by omega) (by omega)]; exact hm
      have hn' : needD T' 4 sSemi r' = { r' with i := r'.i + 1 } := by unfold needD; rw [if_pos hm']
      refine ⟨r'.x, ?_, ?_⟩
      · unfold oneD
        rw [← e0, ← e1, if_neg w]
        dsimp only
        rw [hr', hn']
        dsimp only
        rw [if_pos J.er', show r'.i + 1 = a + d by have := J.i; omega]
      · rw [J.x, ← hx]
    · cases h
theorem readS_sim {T T' : List Tk} {n : Nat} {d : Int} (A : Agree T T' n d) (hl : T.length = n + 1) (hk5 : ∀ i : Int, 0 ≤ i → i < n → (tkAt T i).kind ≠ 5) (he5 : (tkAt T n).kind = 5) : ∀ (k : Nat) (i : Nat) (out l : List St), i ≤ n → n < i + k → readS T k i out = .ok l →
    ∃ l1, l = out ++ l1 ∧ ∀ (k' : Nat) (out' : List St), n < i + k' → ∃ l1' k2, l1'.map bareS = l1.map bareS ∧ k' ≤ k2 + (n - i) ∧ readS T' k' (i + d) out' = readS T' k2 (n + d) (out' ++ l1')
  | 0, i, out, l, hi, hk, h => by omega
  | k + 1, i, out, l, hi, hk, h => by
    rw [readS] at h
    split at h
    · rename_i w
      have hin : i = n := by
        refine Classical.byContradiction fun hne => hk5 i (by omega) (by omega) w
      injection h with h
      subst h hin
      exact ⟨[], by simp, fun k' out' hk' => ⟨[], k', rfl, by omega, by rw [List.append_nil]⟩⟩
    · rename_i w
      split at h
      · rename_i x a ho
        obtain ⟨o0, o1, o2, o3⟩ := oneD_ok ho
        have han : a ≤ n := by
          refine Classical.byContradiction fun hne => o3 ?_
          rw [show a - 1 = (n : Int) by omega]; exact he5
        obtain ⟨b, rfl⟩ : ∃ b : Nat, a = b := ⟨a.toNat, by omega⟩
        obtain ⟨l1, e1, F⟩ := readS_sim A hl hk5 he5 k b (out ++ [x]) l (by omega) (by omega) h
        obtain ⟨x', ox, bx⟩ := oneD_sim A ho han
        refine ⟨x :: l1, by rw [e1]; simp, fun k' out' hk' => ?_⟩
        obtain ⟨q, rfl⟩ : ∃ q, k' = q + 1 := ⟨k' - 1, by omega⟩
        obtain ⟨l1', k2, m1, m2, m3⟩ := F q (out' ++ [x']) (by omega)
        refine ⟨x' :: l1', k2, by simp [m1, bx], by omega, ?_⟩
        rw [readS, if_neg (by rw [← (A.tk i (by omega) (by omega)).1]; exact w), ox]
        dsimp only
        rw [m3]
        simp
      · cases h

/-- what twins are: tokens agree -/
theorem twin_agree {R R2 pre post rest : List Tk} (h : TwinL R R2) : Agree (R ++ rest) (pre ++ R2 ++ post) R.length pre.length where
  lo := by omega
  len := by rw [List.length_append]; omega
  len' := by have := h.1; simp; omega
  tk := by
    intro i h0 h1
    obtain ⟨k, rfl⟩ : ∃ k : Nat, i = k := ⟨i.toNat, by omega⟩
    have hl := h.1
    obtain ⟨x, hx⟩ : ∃ x, R[k]? = some x := ⟨R[k], List.getElem?_eq_getElem (by omega)⟩
    obtain ⟨y, hy⟩ : ∃ y, R2[k]? = some y := ⟨R2[k], List.getElem?_eq_getElem (by omega)⟩
    have t := h.2 k x y hx hy
    have q1 : tkAt (R ++ rest) k = x := tkAt_some (by rw [List.getElem?_append_left (by omega)]; exact hx)
    have q2 : tkAt (pre ++ R2 ++ post) ((k : Int) + pre.length) = y := by
      rw [show (k : Int) + pre.length = ((k + pre.length : Nat) : Int) by omega]
      refine tkAt_some ?_
      rw [List.append_assoc, List.getElem?_append_right (by omega), show k + pre.length - pre.length = k by omega, List.getElem?_append_left (by omega)]; exact hy
    rw [q1, q2]
    unfold Twin2 at t
    simp [t]
theorem tk_end (R : List Tk) (e : Tk) : tkAt (R ++ [e]) R.length = e := tkAt_some (by rw [List.getElem?_append_right (Nat.le_refl _), Nat.sub_self]; rfl)
theorem tk_inn {R rest : List Tk} (hk : ∀ x ∈ R, x.kind ≠ 5) : ∀ i : Int, 0 ≤ i → i < R.length → (tkAt (R ++ rest) i).kind ≠ 5 := by
  intro i h0 h1
  obtain ⟨k, rfl⟩ : ∃ k : Nat, i = k := ⟨i.toNat, by omega⟩
  have hx : R[k]? = some R[k] := List.getElem?_eq_getElem (by omega)
  rw [tkAt_some (by rw [List.getElem?_append_left (by omega)]; exact hx)]
  exact hk _ (List.mem_of_getElem? hx)
/-- the statements of two texts, a line's end between -/
theorem jn_read {a b : ByteArray} (ha : a.size ≤ 3000) (hb : b.size ≤ 3000) {la lb : List St} (ra : readD a = .ok la) (rb : readD b = .ok lb) :
    (∃ l c, readD (jn a b) = .bad 3 l c) ∨ ∃ la' lb', readD (jn a b) = .ok (la' ++ lb') ∧ la'.map bareS = la.map bareS ∧ lb'.map bareS = lb.map bareS := by
  unfold readD at ra rb
  split at ra
  · cases ra
  rename_i ea
  split at rb
  · cases rb
  rename_i eb
  obtain ⟨Ra, Rb, hTa, hTb, ka, kb, hj⟩ := jn_tok ha hb (by omega) (by omega)
  rcases hj with h3 | ⟨hz, A2, B2, tA, tB, hT⟩
  · exact .inl ⟨(tokRes (jn a b)).line, (tokRes (jn a b)).col, by unfold readD; rw [if_pos (by omega), h3]⟩
  right
  have lA := tA.1
  have lB := tB.1
  have gA : Agree (Ra ++ [endTk a]) ([] ++ A2 ++ (B2 ++ [endTk (jn a b)])) Ra.length ([] : List Tk).length := twin_agree tA
  have gB : Agree (Rb ++ [endTk b]) (A2 ++ B2 ++ [endTk (jn a b)]) Rb.length A2.length := twin_agree tB
  rw [List.nil_append, ← List.append_assoc, ← hT] at gA
  rw [← hT] at gB
  rw [hTa] at ra
  rw [hTb] at rb
  obtain ⟨l1, e1, F1⟩ := readS_sim gA (by simp) (tk_inn ka) (by rw [tk_end]; rfl) (Ra ++ [endTk a]).length 0 [] la (by omega) (by simp) ra
  obtain ⟨l2, e2, F2⟩ := readS_sim gB (by simp) (tk_inn kb) (by rw [tk_end]; rfl) (Rb ++ [endTk b]).length 0 [] lb (by omega) (by simp) rb
  rw [List.nil_append] at e1 e2
  subst e1 e2
  have lT : (tokRes (jn a b)).T.length = Ra.length + Rb.length + 1 := by rw [hT]; simp; omega
  obtain ⟨p1, k2, m1, m2, m3⟩ := F1 (tokRes (jn a b)).T.length [] (by omega)
  obtain ⟨p2, k3, n1, n2, n3⟩ := F2 k2 p1 (by omega)
  refine ⟨p1, p2, ?_, m1, n1⟩
  unfold readD
  rw [if_neg (by omega)]
  have m3' : readS (tokRes (jn a b)).T (tokRes (jn a b)).T.length 0 [] = readS (tokRes (jn a b)).T k2 Ra.length p1 := by
    have q := m3
    simp only [List.length_nil, Int.natCast_zero, Int.add_zero, List.nil_append] at q
    exact q
  have n3' : readS (tokRes (jn a b)).T k2 Ra.length p1 = readS (tokRes (jn a b)).T k3 ((A2 ++ B2).length : Nat) (p1 ++ p2) := by
    have q := n3
    rw [show ((0 : Nat) : Int) + (A2.length : Int) = (Ra.length : Int) by omega, show (Rb.length : Int) + (A2.length : Int) = (((A2 ++ B2).length : Nat) : Int) by rw [List.length_append]; omega] at q
    exact q
  rw [m3', n3']
  obtain ⟨q, rfl⟩ : ∃ q, k3 = q + 1 := ⟨k3 - 1, by omega⟩
  rw [readS, if_pos (by rw [hT, tk_end]; rfl)]

end Go.Proofs.YthlofmnmacpogaaGreatDoor

namespace Go.Proofs.YthlofmnmacpogaaGreatDoor
open Go.RowKit

/-- a slice that reads as items -/
def ItRow (w : World) (v : Value) (T : List It) : Prop := ∃ B, w.ownsRow B 87 9 v T.length (itFlat T)
theorem ItRow.keep {w w' : World} {v : Value} {T : List It} (h : ItRow w v T) (hb : Below w.heap.size w w') : ItRow w' v T := by
  obtain ⟨B, h⟩ := h; exact ⟨B, owns_below h hb⟩
theorem ItRow.drewN {w : World} {v : Value} {T : List It} (h : ItRow w v T) (n : Nat) : ItRow (w.drewN n) v T := h
theorem ItRow.alloc {w : World} {v : Value} {T : List It} (h : ItRow w v T) (o : Obj) : ItRow (w.alloc o) v T := h.keep ((Below.refl _ _).alloc (Nat.le_refl _) o)
theorem ItRow.len {w : World} {v : Value} {T : List It} (h : ItRow w v T) : ∃ ad cap, v = .slice ad T.length cap := by
  obtain ⟨B, h⟩ := h; exact owns_len h
theorem ItRow.at {w : World} {v : Value} {T : List It} (h : ItRow w v T) {k : Nat} {x : It} (hx : T[k]? = some x) :
    ∃ g cap, v = .slice (some ⟨g, 0, none⟩) T.length cap ∧ g < w.heap.size ∧ w.cell? ⟨g, k * 9, none⟩ = some (.int .i64 x.op) ∧ w.cell? ⟨g, k * 9 + 1, none⟩ = some (.string x.ln) ∧ w.cell? ⟨g, k * 9 + 2, none⟩ = some (.int .i64 x.lnum) ∧
      w.cell? ⟨g, k * 9 + 3, none⟩ = some (.string x.rn) ∧ w.cell? ⟨g, k * 9 + 4, none⟩ = some (.int .i64 x.rnum) ∧ w.cell? ⟨g, k * 9 + 5, none⟩ = some (.string x.name) ∧ w.cell? ⟨g, k * 9 + 6, none⟩ = some (.string x.user) ∧
      w.cell? ⟨g, k * 9 + 7, none⟩ = some (.int .i64 x.line) ∧ w.cell? ⟨g, k * 9 + 8, none⟩ = some (.int .i64 x.col) := by
  obtain ⟨B, h⟩ := h
  have hk := (List.getElem?_eq_some_iff.1 hx).1
  obtain ⟨g, cap, rfl, hg, hgs⟩ := owns_shape h (by omega)
  have c := fun j (hj : j < 9) => (World.ownsRow.cellAt h (k * 9 + j) (by omega)).trans (itFlat_get _ k j x hx hj)
  exact ⟨g, cap, rfl, hgs, c 0 (by omega), c 1 (by omega), c 2 (by omega), c 3 (by omega), c 4 (by omega), c 5 (by omega), c 6 (by omega), c 7 (by omega), c 8 (by omega)⟩

set_option maxHeartbeats 4000000 in
theorem exact_any {w : World} {u v : Value} {T : List It} (ha : ItRow w u T) (hb : ItRow w v T) (hT : T.length ≤ 5000) :
    Calls Tryz.prog 16 #[u, v] w fun e w' => e = .returned (.bool true) ∧ ∃ n, w' = w.drewN n := by
  obtain ⟨ad, cap, hu⟩ := ha.len
  obtain ⟨ad2, cap2, hv⟩ := hb.len
  have HA := Lib.hid ha
  have HB := Lib.hid hb
  subst hu
  subst hv
  clear ha hb
  go_enter Tryz.func16, Tryz.ntmps16
  go_wp2
  go_loopw [5] (fun i wr => ∃ k n : Nat, i = .int .i64 k ∧ k ≤ T.length ∧ wr = w.drewN n) (fun i _ => T.length - (intOf i).toNat)
  case atStart => exact ⟨0, 0, by go_num, by omega, rfl⟩
  case round =>
    obtain ⟨k, n, rfl, hk, rfl⟩ := hrel
    by_cases hlt : k < T.length
    · obtain ⟨x, hx⟩ : ∃ x, T[k]? = some x := ⟨_, List.getElem?_eq_getElem hlt⟩
      obtain ⟨g, c1, hg, hgl, a0, a1, a2, a3, a4, a5, a6, a7, a8⟩ := HA.out.at hx
      obtain ⟨g2, c2, hg2, hgl2, b0, b1, b2, b3, b4, b5, b6, b7, b8⟩ := HB.out.at hx
      simp only [Value.slice.injEq, true_and] at hg hg2
      obtain ⟨rfl, rfl⟩ := hg
      obtain ⟨rfl, rfl⟩ := hg2
      have hkz : (k : Int) < (T.length : Int) := by omega
      clear hx
      go_wp2
      go_quiet (fail)
      go_wp2
      go_roundw
      case rel => exact ⟨k + 1, _, by go_num, by omega, rfl⟩
      case measure => simp [intOf]; omega
    · have hkz : (T.length : Int) ≤ (k : Int) := by omega
      go_wp2
      go_ret
      exact ⟨rfl, n, rfl⟩

end Go.Proofs.YthlofmnmacpogaaGreatDoor

namespace Go.Proofs.YthlofmnmacpogaaGreatDoor
open Go.RowKit

theorem svFlat_cons (x : Sv) (l : List Sv) : svFlat (x :: l) = svCells x ++ svFlat l := by simp [svFlat]
theorem svFlat_get (l : List Sv) (i j : Nat) (x : Sv) (hx : l[i]? = some x) (hj : j < 12) : (svFlat l)[i * 12 + j]? = (svCells x)[j]? := by
  induction l generalizing i with
  | nil => simp at hx
  | cons y r ih =>
    rw [svFlat_cons]
    cases i with
    | zero =>
      simp only [List.getElem?_cons_zero, Option.some.injEq] at hx
      subst hx
      rw [Nat.zero_mul, Nat.zero_add, List.getElem?_append_left (by simp [svCells]; omega)]
    | succ i =>
      rw [List.getElem?_append_right (by simp [svCells]; omega)]
      rw [show (i + 1) * 12 + j - (svCells y).length = i * 12 + j by simp [svCells]; omega]
      exact ih i (by simpa using hx)
theorem owns_max {w : World} {base : Nat} {e : TypeId} {sz : Nat} {v : Value} {n : Nat} {xs : List Value} (h : w.ownsRow base e sz v n xs) : n ≤ 9223372036854775807 := by
  rcases h.2 with ⟨_, h0⟩ | ⟨g, cap, cur, hv, hb, hg, hnc, hcm, _⟩
  · omega
  · unfold maxLen at hcm; omega
/-- a slice that reads as strings -/
def NmRow (w : World) (v : Value) (l : List ByteArray) : Prop := ∃ B, w.ownsRow B 9 1 v l.length (strV l)
theorem NmRow.keep {w w' : World} {v : Value} {l : List ByteArray} (h : NmRow w v l) (hb : Below w.heap.size w w') : NmRow w' v l := by
  obtain ⟨B, h⟩ := h; exact ⟨B, owns_below h hb⟩
theorem NmRow.len {w : World} {v : Value} {l : List ByteArray} (h : NmRow w v l) : ∃ ad cap, v = .slice ad l.length cap := by
  obtain ⟨B, h⟩ := h; exact owns_len h
theorem NmRow.at {w : World} {v : Value} {l : List ByteArray} (h : NmRow w v l) {k : Nat} {x : ByteArray} (hx : l[k]? = some x) :
    ∃ g cap, v = .slice (some ⟨g, 0, none⟩) l.length cap ∧ g < w.heap.size ∧ w.cell? ⟨g, k, none⟩ = some (.string x) := by
  obtain ⟨B, h⟩ := h
  have hk := (List.getElem?_eq_some_iff.1 hx).1
  obtain ⟨g, cap, rfl, hg, hgs⟩ := owns_shape h (by omega)
  have c := (World.ownsRow.cellAt h k (by omega)).trans (show (strV l)[k]? = some (.string x) by unfold strV; rw [List.getElem?_map, hx]; rfl)
  exact ⟨g, cap, rfl, hgs, c⟩
/-- a slice that reads as statements -/
def SvRow (w : World) (v : Value) (l : List Sv) : Prop := ∃ B, StRow w B v l
theorem SvRow.keep {w w' : World} {v : Value} {l : List Sv} (h : SvRow w v l) (hb : Below w.heap.size w w') : SvRow w' v l := by
  obtain ⟨B, h⟩ := h; exact ⟨B, h.below hb⟩
theorem SvRow.alloc {w : World} {v : Value} {l : List Sv} (h : SvRow w v l) (o : Obj) : SvRow (w.alloc o) v l := h.keep ((Below.refl _ _).alloc (Nat.le_refl _) o)
theorem SvRow.len {w : World} {v : Value} {l : List Sv} (h : SvRow w v l) : ∃ ad cap, v = .slice ad l.length cap := by
  obtain ⟨B, h⟩ := h; exact owns_len h.row
theorem SvRow.at {w : World} {v : Value} {l : List Sv} (h : SvRow w v l) {k : Nat} {x : Sv} (hx : l[k]? = some x) :
    ∃ g cap, v = .slice (some ⟨g, 0, none⟩) l.length cap ∧ g < w.heap.size ∧ w.cell? ⟨g, k * 12, none⟩ = some (.int .i64 x.1.kind) ∧ w.cell? ⟨g, k * 12 + 1, none⟩ = some (.string x.1.name) ∧ w.cell? ⟨g, k * 12 + 2, none⟩ = some (.int .i64 x.1.line) ∧
      w.cell? ⟨g, k * 12 + 3, none⟩ = some (.int .i64 x.1.col) ∧ w.cell? ⟨g, k * 12 + 4, none⟩ = some (.int .i64 x.1.init) ∧ w.cell? ⟨g, k * 12 + 5, none⟩ = some x.2.1 ∧ w.cell? ⟨g, k * 12 + 6, none⟩ = some (.string x.1.role) ∧
      w.cell? ⟨g, k * 12 + 7, none⟩ = some (.string x.1.stage) ∧ w.cell? ⟨g, k * 12 + 8, none⟩ = some (.string x.1.event) ∧ w.cell? ⟨g, k * 12 + 9, none⟩ = some (.int .i64 x.1.times) ∧ w.cell? ⟨g, k * 12 + 10, none⟩ = some x.2.2 ∧ w.cell? ⟨g, k * 12 + 11, none⟩ = some (.bool x.1.final) ∧
      NmRow w x.2.1 x.1.names ∧ ItRow w x.2.2 x.1.ifs := by
  obtain ⟨B, h⟩ := h
  have hk := (List.getElem?_eq_some_iff.1 hx).1
  have hm := List.mem_of_getElem? hx
  obtain ⟨g, cap, rfl, hg, hgs⟩ := owns_shape h.row (by omega)
  have c := fun j (hj : j < 12) => (World.ownsRow.cellAt h.row (k * 12 + j) (by omega)).trans (svFlat_get _ k j x hx hj)
  exact ⟨g, cap, rfl, hgs, c 0 (by omega), c 1 (by omega), c 2 (by omega), c 3 (by omega), c 4 (by omega), c 5 (by omega), c 6 (by omega), c 7 (by omega), c 8 (by omega), c 9 (by omega), c 10 (by omega), c 11 (by omega), ⟨B, h.nm x hm⟩, ⟨B, h.it x hm⟩⟩

set_option maxHeartbeats 4000000 in
theorem sameNames_any {w : World} {u v : Value} {T : List ByteArray} (ha : NmRow w u T) (hb : NmRow w v T) :
    Calls Tryz.prog 35 #[u, v] w fun e w' => e = .returned (.bool true) ∧ ∃ n, w' = w.drewN n := by
  obtain ⟨ad, cap, hu⟩ := ha.len
  obtain ⟨ad2, cap2, hv⟩ := hb.len
  have hT : T.length ≤ 9223372036854775807 := by obtain ⟨_, h⟩ := ha; exact owns_max h
  have HA := Lib.hid ha
  have HB := Lib.hid hb
  subst hu
  subst hv
  clear ha hb
  go_enter Tryz.func35, Tryz.ntmps35
  go_wp2
  go_loopw [5] (fun i wr => ∃ k n : Nat, i = .int .i64 k ∧ k ≤ T.length ∧ wr = w.drewN n) (fun i _ => T.length - (intOf i).toNat)
  case atStart => exact ⟨0, 0, by go_num, by omega, rfl⟩
  case round =>
    obtain ⟨k, n, rfl, hk, rfl⟩ := hrel
    by_cases hlt : k < T.length
    · obtain ⟨x, hx⟩ : ∃ x, T[k]? = some x := ⟨_, List.getElem?_eq_getElem hlt⟩
      obtain ⟨g, c1, hg, hgl, a0⟩ := HA.out.at hx
      obtain ⟨g2, c2, hg2, hgl2, b0⟩ := HB.out.at hx
      simp only [Value.slice.injEq, true_and] at hg hg2
      obtain ⟨rfl, rfl⟩ := hg
      obtain ⟨rfl, rfl⟩ := hg2
      have hkz : (k : Int) < (T.length : Int) := by omega
      clear hx
      go_wp2
      go_quiet (fail)
      go_wp2
      go_roundw
      case rel => exact ⟨k + 1, _, by go_num, by omega, rfl⟩
      case measure => simp [intOf]; omega
    · have hkz : (T.length : Int) ≤ (k : Int) := by omega
      go_wp2
      go_ret
      exact ⟨rfl, n, rfl⟩

end Go.Proofs.YthlofmnmacpogaaGreatDoor
