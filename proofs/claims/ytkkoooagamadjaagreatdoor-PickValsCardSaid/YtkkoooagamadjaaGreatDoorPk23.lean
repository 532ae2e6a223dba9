/- Numbers of warderref22, In of warderref23. Zones of numbers: plain. -/
import Derived.Test.YtkkoooagamadjaaGreatDoorPk22
import Derived.Test.YtkkoooagamadjaaGreatDoorPk10
import Derived.Laws.OwnMore
import Derived.Test.YtkkoooagamadjaaGreatDoorPk01

namespace Go.Proofs.YtkkoooagamadjaaGreatDoor
open Go.RowKit

theorem run_append_nothing {P : Program} {w : World} {base : Nat} (t ty e : TypeId) (i : TypeInfo) (size cap0 : Nat) (ht : P.underlying t = some (.slice e)) (hi : P.info? e = some i)
    (v : Value) (n : Nat) (xs : List Value) (hown : w.ownsRow base e size v n xs) :
    (Builtin.append_ #[t, t] ty #[v, .slice none 0 cap0]).run P w = .ok v w := by
  rcases hown.2 with ⟨rfl, rfl⟩ | ⟨g, cap, cur, rfl, _, _, hnc, _⟩
  · simp [Builtin.append_, run_underlying ht, sizeOf, typeInfo, hi, Builtin.lenOf, Builtin.firstCells]
  · simp [Builtin.append_, run_underlying ht, sizeOf, typeInfo, hi, Builtin.lenOf, Builtin.firstCells, hnc, storeCells]

/-- 'out = append(out, l...)' of a slice that reads, one cell an element -/
theorem appR {P : Program} {ops : Array Oper} {rest : List Oper} {o : Oper} {a : Act} {Q : Exit → Act → World → Prop} (w : World) (hgd : o.guard = none) (s x : Operand) (t : TypeId)
    (ho : o.op = .call { callee := .builtin .append, args := #[s, x], argTypes := #[t, t] })
    (base : Nat) (e : TypeId) (z : Value) (bytes : Nat) (ht : P.underlying t = some (.slice e)) (hinfo : (P.info? e).map (fun i => (i.zero, i.size, i.bytes)) = some (some z, 1, bytes))
    (hzs : z.cells.size = 1) (hby : 0 < bytes)
    (v : Value) (n : Nat) (xs : List Value) (hs : a.eval s = v) (hown : w.ownsRow base e 1 v n xs)
    (vx : Value) (news : List Value) (hx : a.eval x = vx) (hr : Reads w vx news) (h1 : ∀ u ∈ news, u.oneCell' = true)
    (hbytes : (n + news.length) * bytes ≤ 140737488355328) (hbase : base ≤ w.heap.size)
    (h : ∀ v' w', w'.ownsRow base e 1 v' (n + news.length) (xs ++ news) → Below base w w' → wpList P ops Q rest (a.put o.dst v') w') :
    wpList P ops Q (o :: rest) a w := by
  obtain ⟨i, hi, hz0, hz1, hz2⟩ := info_parts hinfo
  have h63 : n + news.length ≤ maxLen := by
    have : (n + news.length) * 1 ≤ (n + news.length) * bytes := Nat.mul_le_mul_left _ hby
    unfold maxLen; omega
  have key : ∀ ad m c, vx = .slice (some ad) m c → news.length = m → (∀ j u, news[j]? = some u → w.cell? (ad.add j) = some u) → wpList P ops Q (o :: rest) a w := by
    intro ad m c hv hm hnews
    refine wpList_append_own w hgd s x t ho base e i z 1 bytes ht hi hz0 hz1 hz2 hzs Nat.one_pos v n xs hs hown ad m c news (hx.trans hv) (by omega) hnews h1 (by omega) (by rw [← hm]; exact hbytes) hbase ?_
    intro v' w' ho' hg _
    exact h v' w' (by rw [hm]; exact ho') (below_of_grown hg (fun k hk => (hown.lt k hk).1) hbase)
  rcases hr with ⟨ad, cap, hv, hn⟩ | ⟨b, off, cap, hv, _, _, hc⟩
  · cases ad with
    | some ad => exact key ad 0 cap hv (by rw [hn]; rfl) (by rw [hn]; intro j u hu; simp at hu)
    | none =>
      subst hn
      refine wpList_plain hgd fun K hK => ?_
      have hrun := run_append_nothing (P := P) (w := w) (base := base) t o.type e i 1 cap ht hi v n xs hown
      have hx' : a.eval x = .slice none 0 cap := hx.trans hv
      unfold Oper.wp
      simp [execOp, ho, resolve, invoke, builtin, hs, hx', hrun, Result.andThen]
      exact hK _ _ (h v w (by simpa using hown) (Below.refl _ _))
  · refine key ⟨b, off, none⟩ _ cap hv rfl (fun j u hu => ?_)
    have : (⟨b, off, none⟩ : Addr).add j = ⟨b, off + j, none⟩ := by unfold Addr.add; split <;> simp_all
    rw [this]; exact hc j u hu

set_option maxHeartbeats 1000000 in
theorem rnumbers_any (v1 v2 : Value) (l1 l2 : List Int) (w : World) (h1 : Reads w v1 (ints l1)) (h2 : Reads w v2 (ints l2)) (hl1 : l1.length ≤ 10000) (hl2 : l2.length ≤ 10000) :
    Calls Tryz.prog 30 #[v1, v2] w fun e w' => ∃ v', e = .returned v' ∧ w'.ownsRow w.heap.size 2 1 v' (sortS (l1 ++ l2)).length (ints (sortS (l1 ++ l2))) ∧ Below w.heap.size w w' := by
  have hb0 : Below w.heap.size w (w.alloc (.cells #[] 2)) := (Below.refl _ w).alloc (Nat.le_refl _) _
  have own0 : (w.alloc (.cells #[] 2)).ownsRow w.heap.size 2 1 (.slice (some ⟨w.heap.size, 0, none⟩) 0 0) 0 [] := World.ownsRow_lit w #[] 0 (Nat.le_refl _) (Nat.zero_le _) rfl
  have r1 := h1.below (Nat.le_refl _) hb0
  have hlen1 := ints_len l1
  have hlen2 := ints_len l2
  have H2 := Lib.hid h2
  have HB0 := Lib.hid hb0
  clear h2 hb0 h1
  go_enter Tryz.func30, Tryz.ntmps30
  go_wp2_with (first
    | (at_builtin; refine appR _ rfl _ _ 22 rfl w.heap.size 2 (.int .i64 0) 8 Tryz.underlying22 info_int64 rfl (by decide) _ 0 [] rfl (by exact own0) _ _ rfl r1 (ints_one _) (by rw [hlen1]; omega) (by simp) ?_; clear own0; intro v' w1 hown1 hb1)
    | (at_builtin; refine appR _ rfl _ _ 22 rfl w.heap.size 2 (.int .i64 0) 8 Tryz.underlying22 info_int64 rfl (by decide) _ _ _ rfl (by exact hown1) _ _ rfl (H2.out.below (Nat.le_refl _) (HB0.out.trans hb1)) (ints_one _) (by rw [hlen1, hlen2]; omega) (HB0.out.trans hb1).size ?_; intro v'' w2 hown2 hb2)
    | fail)
  have hB : Below w.heap.size w w2 := (HB0.out.trans hb1).trans hb2
  have hR : Reads w2 v'' (ints (l1 ++ l2)) := by
    have := Reads.of_owns hown2
    simpa [ints] using this
  have HB := Lib.hid hB
  clear hown1 hown2 hb1 hb2 hB r1 hlen1 hlen2
  refine (rsorted_any v'' (l1 ++ l2) w2 hR (by simp; omega)).mono ?_
  rintro e w3 ⟨v3, rfl, ho3, hb3⟩
  have ho4 := owns_mono ho3 HB.out.size
  have hb4 := HB.out.trans (hb3.mono HB.out.size)
  clear ho3 hb3 hR
  go_wp2
  go_ret
  exact ⟨_, rfl, ho4, hb4⟩

/-- which of so many attributes are not in a list -/
def inZ (n : Nat) (l : List Int) : List Bool := (List.range n).map fun i : Nat => l.all fun a => a != (i : Int)
theorem inZ_len (n : Nat) (l : List Int) : (inZ n l).length = n := by simp [inZ]
theorem inZ_succ (n : Nat) (l : List Int) : inZ (n + 1) l = inZ n l ++ [l.all fun a => a != (n : Int)] := by simp [inZ, List.range_succ]
theorem all_succ (l : List Int) (k : Nat) (a i : Int) (h : l[k]? = some a) : (l.take (k + 1)).all (fun a => a != i) = ((l.take k).all (fun a => a != i) && (a != i)) := by
  obtain ⟨hk, rfl⟩ := List.getElem?_eq_some_iff.1 h
  rw [List.take_succ_eq_append_getElem hk, List.all_append]; simp

end Go.Proofs.YtkkoooagamadjaaGreatDoor

namespace Go.Proofs.YtkkoooagamadjaaGreatDoor
open Go.RowKit

/-- a class's attributes: those below n of which p holds -/
def attrZ (p : Nat → Bool) : Nat → Int
  | 0 => 0
  | k + 1 => if p k then putZ (attrZ p k) k true else attrZ p k
/-- the last of the first n numbers that is x, or -1 -/
def constZ (C : List Int) (x : Int) : Nat → Int
  | 0 => -1
  | k + 1 => if C.getD k 0 = x then k else constZ C x k
def clsZ (p : Int → Nat → Bool) (n : Nat) (C : List Int) (x : Int) : Int × Int := (attrZ (p x) n, constZ C x C.length)
def gapsZ (c : Int) : List Int → List Int
  | a :: b :: r => gapZ a b c :: gapsZ c (b :: r)
  | _ => []
theorem gapsZ_snoc (c : Int) : ∀ (l : List Int) (a b : Int), gapsZ c (l ++ [a] ++ [b]) = gapsZ c (l ++ [a]) ++ [gapZ a b c]
  | [], a, b => rfl
  | [x], a, b => rfl
  | x :: y :: l, a, b => by
    have := gapsZ_snoc c (y :: l) a b
    simp only [List.cons_append, List.append_assoc, gapsZ] at this ⊢
    rw [this]
theorem gapsZ_len (c : Int) : ∀ (l : List Int), (gapsZ c l).length = l.length - 1
  | [] => rfl
  | [_] => rfl
  | x :: y :: l => by
    have := gapsZ_len c (y :: l)
    simp only [gapsZ, List.length_cons] at this ⊢
    omega
theorem gapsZ_step (c : Int) (l : List Int) (k : Nat) (a b : Int) (ha : l[k]? = some a) (hb : l[k + 1]? = some b) : gapsZ c (l.take (k + 1 + 1)) = gapsZ c (l.take (k + 1)) ++ [gapZ a b c] := by
  obtain ⟨hk, rfl⟩ := List.getElem?_eq_some_iff.1 ha
  obtain ⟨hk2, rfl⟩ := List.getElem?_eq_some_iff.1 hb
  rw [List.take_succ_eq_append_getElem hk2, List.take_succ_eq_append_getElem hk]
  exact gapsZ_snoc c _ _ _
theorem gapsZ_one (c : Int) (l : List Int) : gapsZ c (l.take 1) = [] := by
  cases l with
  | nil => rfl
  | cons a r => rfl

theorem attrZ_bd (p : Nat → Bool) : ∀ n, 0 ≤ attrZ p n ∧ attrZ p n < 2147483648
  | 0 => by simp [attrZ]
  | k + 1 => by
    rw [attrZ]
    split
    · exact putZ_bd _ _ _
    · exact attrZ_bd p k

theorem mem_insS (x y : Int) (l : List Int) (h : y ∈ insS x l) : y = x ∨ y ∈ l := by
  have H : ∀ (l : List Int) (s : List Int × Bool), y ∈ (l.foldl (stepS x) s).1 → y = x ∨ y ∈ s.1 ∨ y ∈ l := by
    intro l
    induction l with
    | nil => intro s h; exact .inr (.inl h)
    | cons o l ih =>
      intro s h
      rcases ih _ h with h | h | h
      · exact .inl h
      · unfold stepS at h
        dsimp only at h
        split at h <;> split at h <;> grind
      · exact .inr (.inr (List.mem_cons_of_mem _ h))
  unfold insS at h
  split at h
  · rcases H l _ h with h | h | h
    · exact .inl h
    · simp at h
    · exact .inr h
  · rcases List.mem_append.1 h with h | h
    · rcases H l _ h with h | h | h
      · exact .inl h
      · simp at h
      · exact .inr h
    · simp at h; exact .inl h
theorem mem_sortS (l : List Int) (y : Int) (h : y ∈ sortS l) : y ∈ l := by
  have H : ∀ (l acc : List Int), y ∈ l.foldl (fun out x => insS x out) acc → y ∈ acc ∨ y ∈ l := by
    intro l
    induction l with
    | nil => intro acc h; exact .inl h
    | cons x l ih =>
      intro acc h
      rcases ih _ h with h | h
      · rcases mem_insS x y acc h with h | h
        · exact .inr (by rw [h]; exact List.mem_cons_self)
        · exact .inl h
      · exact .inr (List.mem_cons_of_mem _ h)
  rcases H l [] h with h | h
  · simp at h
  · exact h

/-- the zone of numbers: p x k: is attribute k of number x? -/
def zoneZ (p : Int → Nat → Bool) (n : Nat) (C L : List Int) (c : Int) : List (Int × Int) × List Int := (L.map (clsZ p n C), gapsZ c L)


/- Sorted, plain -/
def insP (x : Int) : List Int → List Int
  | [] => [x]
  | o :: r => if x ≤ o then x :: (o :: r).filter (fun y => y != x) else o :: insP x r

theorem fold_true (x : Int) : ∀ (l acc : List Int), l.foldl (stepS x) (acc, true) = (acc ++ l.filter (fun y => y != x), true)
  | [], acc => by simp
  | o :: l, acc => by
    have e : stepS x (acc, true) o = (acc ++ if o = x then [] else [o], true) := by
      unfold stepS; by_cases h : o = x <;> simp [h]
    rw [List.foldl_cons, e, fold_true x l]
    by_cases h : o = x <;> simp [h]

theorem fold_false (x : Int) : ∀ (l acc : List Int), (if (l.foldl (stepS x) (acc, false)).2 = true then (l.foldl (stepS x) (acc, false)).1 else (l.foldl (stepS x) (acc, false)).1 ++ [x]) = acc ++ insP x l
  | [], acc => by simp [insP]
  | o :: l, acc => by
    by_cases h : x ≤ o
    · have e : stepS x (acc, false) o = (acc ++ [x] ++ if o = x then [] else [o], true) := by
        unfold stepS; by_cases h2 : o = x <;> simp [h, h2]
      rw [List.foldl_cons, e, fold_true x l, insP, if_pos h]
      by_cases h2 : o = x <;> simp [h2]
    · have h2 : o ≠ x := by omega
      have e : stepS x (acc, false) o = (acc ++ [o], false) := by
        unfold stepS; simp [h, h2]
      rw [List.foldl_cons, e, fold_false x l, insP, if_neg h]
      simp

theorem insS_insP (x : Int) (l : List Int) : insS x l = insP x l := by
  have := fold_false x l []
  unfold insS innS
  simpa using this

theorem mem_insP (x y : Int) : ∀ (l : List Int), y ∈ insP x l ↔ y = x ∨ y ∈ l
  | [] => by simp [insP]
  | o :: l => by
    unfold insP
    split
    · simp only [List.mem_cons, List.mem_filter]
      by_cases h : y = x <;> simp [h]
    · simp only [List.mem_cons, mem_insP x y l]
      constructor <;> (intro h; rcases h with h | h | h <;> simp [h])

theorem sorted_insP (x : Int) : ∀ (l : List Int), l.Pairwise (· < ·) → (insP x l).Pairwise (· < ·)
  | [], _ => by simp [insP]
  | o :: l, h => by
    obtain ⟨h1, h2⟩ := List.pairwise_cons.1 h
    unfold insP
    split
    · rename_i hx
      refine List.pairwise_cons.2 ⟨fun y hy => ?_, h.filter _⟩
      simp only [List.mem_filter, List.mem_cons] at hy
      obtain ⟨hy, hn⟩ := hy
      have hn : y ≠ x := by simpa using hn
      rcases hy with rfl | hy
      · omega
      · have := h1 y hy; omega
    · refine List.pairwise_cons.2 ⟨fun y hy => ?_, sorted_insP x l h2⟩
      rcases (mem_insP x y l).1 hy with rfl | hy
      · omega
      · exact h1 y hy

theorem sortS_ok (l : List Int) : (sortS l).Pairwise (· < ·) ∧ ∀ y, y ∈ sortS l ↔ y ∈ l := by
  have H : ∀ (l acc : List Int), acc.Pairwise (· < ·) → (l.foldl (fun out x => insS x out) acc).Pairwise (· < ·) ∧ ∀ y, y ∈ l.foldl (fun out x => insS x out) acc ↔ y ∈ acc ∨ y ∈ l := by
    intro l
    induction l with
    | nil => intro acc h; exact ⟨h, fun y => by simp⟩
    | cons x l ih =>
      intro acc h
      have h2 := ih (insS x acc) (by rw [insS_insP]; exact sorted_insP x acc h)
      refine ⟨h2.1, fun y => ?_⟩
      rw [List.foldl_cons, h2.2 y, insS_insP, mem_insP]
      simp only [List.mem_cons]
      grind
  have h := H l [] List.Pairwise.nil
  exact ⟨h.1, fun y => by rw [sortS, h.2 y]; simp⟩

theorem int_uniq : ∀ {l m : List Int}, l.Pairwise (· < ·) → m.Pairwise (· < ·) → (∀ x, x ∈ l ↔ x ∈ m) → l = m
  | [], [], _, _, _ => rfl
  | [], b :: m, _, _, h => by have := (h b).2 (by simp); simp at this
  | a :: l, [], _, _, h => by have := (h a).1 (by simp); simp at this
  | a :: l, b :: m, hl, hm, h => by
    obtain ⟨la, ll⟩ := List.pairwise_cons.1 hl
    obtain ⟨mb, mm⟩ := List.pairwise_cons.1 hm
    have e : a = b := by
      rcases List.mem_cons.1 ((h a).1 (by simp)) with e | h1
      · exact e
      · rcases List.mem_cons.1 ((h b).2 (by simp)) with e | h2
        · exact e.symm
        · have := la b h2; have := mb a h1; omega
    subst e
    rw [int_uniq ll mm fun x => ?_]
    constructor
    · intro hx
      rcases List.mem_cons.1 ((h x).1 (List.mem_cons_of_mem _ hx)) with e | h1
      · subst e; have := la x hx; omega
      · exact h1
    · intro hx
      rcases List.mem_cons.1 ((h x).2 (List.mem_cons_of_mem _ hx)) with e | h1
      · subst e; have := mb x hx; omega
      · exact h1

/- sets of attributes -/
theorem ofB_zero (f : Nat → Bool) : ofB f = 0 ↔ ∀ j, j < 31 → f j = false := by
  constructor
  · intro h j hj
    have := ofB_bit f j
    rw [h] at this
    simp [hj] at this
    exact this
  · intro h
    exact (eq_ofB 0 (by omega) f (fun j hj => by rw [h j hj]; simp)).symm

theorem attrZ_ofB (p : Nat → Bool) : ∀ n, n ≤ 31 → attrZ p n = (ofB fun j => decide (j < n) && p j : Nat)
  | 0, _ => by
    have e := (ofB_zero (fun j => decide (j < 0) && p j)).2 (fun j _ => by simp)
    have e2 : ((ofB fun j => decide (j < 0) && p j : Nat) : Int) = 0 := by rw [e]; rfl
    rw [e2]; unfold attrZ; trivial
  | k + 1, h => by
    have ih := attrZ_ofB p k (by omega)
    rw [attrZ]
    split
    · rename_i hp
      unfold putZ
      refine congrArg (fun n : Nat => (n : Int)) (ofB_congr _ _ ?_)
      intro j hj
      rw [ih, hasN_ofB _ _ hj]
      by_cases e : j = k
      · subst e; simp [hp]
      · rw [if_neg (by omega)]
        have : decide (j < k + 1) = decide (j < k) := by rw [decide_eq_decide]; omega
        rw [this]
    · rename_i hp
      rw [ih]
      refine congrArg (fun n : Nat => (n : Int)) (ofB_congr _ _ ?_)
      intro j hj
      by_cases e : j = k
      · subst e; simp [hp]
      · have : decide (j < k + 1) = decide (j < k) := by rw [decide_eq_decide]; omega
        rw [this]

theorem attrZ_zero (p : Nat → Bool) (n : Nat) (hn : n ≤ 31) : attrZ p n = 0 ↔ ∀ k, k < n → p k = false := by
  rw [attrZ_ofB p n hn]
  constructor
  · intro h k hk
    have := (ofB_zero _).1 (show ofB _ = 0 by exact_mod_cast h) k (by omega)
    simpa [hk] using this
  · intro h
    have := (ofB_zero (fun j => decide (j < n) && p j)).2 (fun j _ => by by_cases hj : j < n <;> simp [hj]; exact h j hj)
    exact_mod_cast this

theorem attrZ_has (p : Nat → Bool) (n : Nat) (hn : n ≤ 31) (a : Int) : hasB (attrZ p n) a = true ↔ ∃ k : Nat, (k : Int) = a ∧ k < n ∧ p k = true := by
  rw [attrZ_ofB p n hn]
  unfold hasB
  constructor
  · intro h
    split at h
    · rename_i ha
      rw [hasN_ofB _ _ (by omega)] at h
      simp at h
      exact ⟨a.toNat, by omega, h.1, h.2⟩
    · cases h
  · rintro ⟨k, rfl, hk, hp⟩
    rw [if_pos (by omega), hasN_ofB _ _ (by omega)]
    simp [hk, hp]

theorem attrZ_less (p : Nat → Bool) (n : Nat) (hn : n ≤ 31) (a : Int) : putZ (attrZ p n) a false = attrZ (fun k => p k && ((k : Int) != a)) n := by
  rw [attrZ_ofB _ n hn, attrZ_ofB _ n hn]
  unfold putZ
  refine congrArg (fun n : Nat => (n : Int)) (ofB_congr _ _ ?_)
  intro j hj
  rw [hasN_ofB _ _ hj]
  by_cases e : (j : Int) = a
  · simp [e]
  · have e2 : ((j : Int) != a) = true := by simpa using e
    rw [if_neg e, e2, Bool.and_true]

theorem constZ_none (C : List Int) (x : Int) : ∀ n, n ≤ C.length → (constZ C x n = -1 ↔ ∀ k, k < n → C.getD k 0 ≠ x)
  | 0, _ => by simp [constZ]
  | k + 1, h => by
    rw [constZ]
    split
    · rename_i e
      constructor
      · intro h; omega
      · intro h; exact absurd e (h k (by omega))
    · rename_i e
      rw [constZ_none C x k (by omega)]
      constructor
      · intro h j hj
        by_cases ej : j = k
        · subst ej; exact e
        · exact h j (by omega)
      · intro h j hj; exact h j (by omega)

theorem const_mem (C : List Int) (x : Int) : constZ C x C.length = -1 ↔ x ∉ C := by
  rw [constZ_none C x _ (Nat.le_refl _)]
  constructor
  · intro h hx
    obtain ⟨k, hk, e⟩ := List.mem_iff_getElem.1 hx
    exact h k hk (by rw [List.getD_eq_getElem?_getD, List.getElem?_eq_getElem hk]; exact e)
  · intro h k hk e
    rw [List.getD_eq_getElem?_getD, List.getElem?_eq_getElem hk] at e
    exact h (e ▸ List.getElem_mem hk)

/-- is a number of the zone's? -/
def keepP (p : Int → Nat → Bool) (n : Nat) (C : List Int) (x : Int) : Bool := decide (clsZ p n C x ≠ (0, -1))
theorem keepP_iff (p : Int → Nat → Bool) (n : Nat) (hn : n ≤ 31) (C : List Int) (x : Int) : keepP p n C x = true ↔ (∃ k, k < n ∧ p x k = true) ∨ x ∈ C := by
  unfold keepP clsZ
  rw [decide_eq_true_iff, Ne, Prod.mk.injEq, attrZ_zero _ n hn, const_mem]
  constructor
  · intro h
    by_cases hx : x ∈ C
    · exact .inr hx
    · refine .inl ?_
      apply Classical.byContradiction
      intro h2
      exact h ⟨fun k hk => by
        cases hp : p x k
        · rfl
        · exact absurd ⟨k, hk, hp⟩ h2, hx⟩
  · rintro (⟨k, hk, hp⟩ | hx) ⟨h1, h2⟩
    · rw [h1 k hk] at hp; cases hp
    · exact h2 hx

theorem attrZ_congr (p q : Nat → Bool) : ∀ n, (∀ k, k < n → p k = q k) → attrZ p n = attrZ q n
  | 0, _ => rfl
  | k + 1, h => by rw [attrZ, attrZ, h k (by omega), attrZ_congr p q k (fun j hj => h j (by omega))]
theorem clsZ_congr (p q : Int → Nat → Bool) (n : Nat) (C : List Int) (x : Int) (h : ∀ k, k < n → p x k = q x k) : clsZ p n C x = clsZ q n C x := by
  unfold clsZ; rw [attrZ_congr _ _ n h]

/- gaps -/
theorem gapsZ_app (c : Int) : ∀ (Q : List Int) (b y : Int) (T : List Int), gapsZ c (Q ++ b :: y :: T) = gapsZ c (Q ++ [b]) ++ gapZ b y c :: gapsZ c (y :: T)
  | [], b, y, T => rfl
  | [q], b, y, T => rfl
  | q :: q2 :: Q, b, y, T => by
    have := gapsZ_app c (q2 :: Q) b y T
    simp only [List.cons_append, gapsZ] at this ⊢
    rw [this]

theorem merge_gap (r b x y : Int) (h1 : b < x) (h2 : x < y) : merge (gapZ b x (kap r)) (gapZ x y (kap r)) r = gapZ b y (kap r) := by
  unfold merge klip gapZ
  omega

theorem cutG_gaps (r : Int) (P R : List Int) (x : Int) (hs : (P ++ x :: R).Pairwise (· < ·)) : cutG (gapsZ (kap r) (P ++ x :: R)) (P ++ x :: R).length P.length r = gapsZ (kap r) (P ++ R) := by
  rcases List.eq_nil_or_concat P with rfl | ⟨Q, b, hP⟩
  · cases R with
    | nil => simp [cutG, gapsZ]
    | cons y T => simp [cutG, gapsZ]
  · rw [List.concat_eq_append] at hP
    subst hP
    cases R with
    | nil =>
      have e := gapsZ_app (kap r) Q b x []
      simp only [List.append_assoc, List.cons_append, List.nil_append, List.append_nil, List.length_append, List.length_cons, List.length_nil] at *
      rw [e]
      have hl : (gapsZ (kap r) (Q ++ [b])).length = Q.length := by rw [gapsZ_len]; simp
      unfold cutG
      rw [if_neg (by omega), if_neg (by omega), if_pos (by omega), show Q.length + (0 + 1 + 1) - 2 = Q.length by omega, List.eraseIdx_append_of_length_le (by omega), hl]
      simp [gapsZ]
    | cons y T =>
      have hbx : b < x := by
        rw [List.append_assoc] at hs
        have := (List.pairwise_append.1 hs).2.1
        simp only [List.cons_append, List.nil_append, List.pairwise_cons] at this
        exact this.1 x (by simp)
      have hxy : x < y := by
        have := (List.pairwise_append.1 hs).2.1
        simp only [List.pairwise_cons] at this
        exact this.1 y (by simp)
      have e := gapsZ_app (kap r) Q b x (y :: T)
      have e2 := gapsZ_app (kap r) Q b y T
      simp only [List.append_assoc, List.cons_append, List.nil_append, List.length_append, List.length_cons, List.length_nil] at *
      rw [e, e2]
      have hl : (gapsZ (kap r) (Q ++ [b])).length = Q.length := by rw [gapsZ_len]; simp
      rw [show gapsZ (kap r) (x :: y :: T) = gapZ x y (kap r) :: gapsZ (kap r) (y :: T) from rfl]
      unfold cutG
      rw [if_neg (by omega), if_neg (by omega), if_neg (by omega), show Q.length + (0 + 1) - 1 = Q.length by omega, show Q.length + (0 + 1) = Q.length + 1 by omega]
      have g1 : (gapsZ (kap r) (Q ++ [b]) ++ gapZ b x (kap r) :: gapZ x y (kap r) :: gapsZ (kap r) (y :: T)).getD Q.length 0 = gapZ b x (kap r) := by
        rw [List.getD_eq_getElem?_getD, List.getElem?_append_right (by omega), hl]; simp
      have g2 : (gapsZ (kap r) (Q ++ [b]) ++ gapZ b x (kap r) :: gapZ x y (kap r) :: gapsZ (kap r) (y :: T)).getD (Q.length + 1) 0 = gapZ x y (kap r) := by
        rw [List.getD_eq_getElem?_getD, List.getElem?_append_right (by omega), hl]; simp
      rw [g1, g2, merge_gap r b x y hbx hxy, List.set_append_right _ _ (by omega), List.eraseIdx_append_of_length_le (by omega), hl]
      simp

/- Drop over a zone of numbers -/
theorem dropGo_zone (a r : Int) (c c' : Int → Int × Int) (h1 : ∀ x, hasB (c x).1 a = false → c' x = c x) (h2 : ∀ x, hasB (c x).1 a = true → c' x = (putZ (c x).1 a false, (c x).2)) :
    ∀ (R P : List Int), (P ++ R).Pairwise (· < ·) → (∀ x ∈ R, c x ≠ (0, -1)) → dropGo a r R.length P.length (P.map c' ++ R.map c) (gapsZ (kap r) (P ++ R)) =
      ((P ++ R.filter fun x => decide (c' x ≠ (0, -1))).map c', gapsZ (kap r) (P ++ R.filter fun x => decide (c' x ≠ (0, -1))))
  | [], P, _, _ => by simp [dropGo]
  | x :: R, P, hs, hn => by
    have hg : (P.map c' ++ (x :: R).map c).getD P.length (0, 0) = c x := by
      rw [List.getD_eq_getElem?_getD, List.getElem?_append_right (by simp)]; simp
    have hset : ∀ v, (P.map c' ++ (x :: R).map c).set P.length v = P.map c' ++ v :: R.map c := fun v => by
      rw [List.set_append_right _ _ (by simp)]; simp
    have hcx := hn x (by simp)
    have hn' : ∀ y ∈ R, c y ≠ (0, -1) := fun y hy => hn y (List.mem_cons_of_mem _ hy)
    have key : ∀ (hk : c' x ≠ (0, -1)), dropGo a r R.length (P.length + 1) (P.map c' ++ c' x :: R.map c) (gapsZ (kap r) (P ++ x :: R)) =
        ((P ++ (x :: R).filter fun x => decide (c' x ≠ (0, -1))).map c', gapsZ (kap r) (P ++ (x :: R).filter fun x => decide (c' x ≠ (0, -1)))) := by
      intro hk
      have ih := dropGo_zone a r c c' h1 h2 R (P ++ [x]) (by simpa using hs) hn'
      simp only [List.length_append, List.length_cons, List.length_nil, List.map_append, List.map_cons, List.map_nil, List.append_assoc, List.cons_append, List.nil_append, Nat.zero_add] at ih
      rw [ih, List.filter_cons_of_pos (by simpa using hk)]
      simp
    rw [List.length_cons, dropGo, hg]
    cases hb : hasB (c x).1 a with
    | false =>
      rw [if_pos rfl]
      have e := h1 x hb
      have := key (by rw [e]; exact hcx)
      rw [e] at this
      simpa using this
    | true =>
      rw [if_neg (by simp)]
      have e := h2 x hb
      rw [← show (c' x).1 = putZ (c x).1 a false by rw [e], ← show (c' x).2 = (c x).2 by rw [e]]
      have hset := hset (c' x)
      rw [show ((c' x).1, (c' x).2) = c' x from rfl, hset]
      by_cases hk : c' x = (0, -1)
      · rw [if_pos (by rw [hk]; exact ⟨rfl, rfl⟩)]
        have he : (P.map c' ++ c' x :: R.map c).eraseIdx P.length = P.map c' ++ R.map c := by
          rw [List.eraseIdx_append_of_length_le (by simp)]; simp
        have hl : (P.map c' ++ (x :: R).map c).length = (P ++ x :: R).length := by simp
        rw [he, hl, cutG_gaps r P R x hs]
        have hs' : (P ++ R).Pairwise (· < ·) := hs.sublist (by simp)
        rw [dropGo_zone a r c c' h1 h2 R P hs' hn', List.filter_cons_of_neg (by simpa using hk)]
      · rw [if_neg (fun h => hk (Prod.ext h.1 h.2))]
        exact key hk

/-- an attribute less -/
def pm (l : List Int) (p : Int → Nat → Bool) (x : Int) (k : Nat) : Bool := p x k && l.all fun a => a != (k : Int)

theorem drop_zone (p : Int → Nat → Bool) (n : Nat) (hn : n ≤ 31) (C L : List Int) (a r : Int) (hs : L.Pairwise (· < ·)) (hne : ∀ x ∈ L, keepP p n C x = true) :
    dropZ a r (zoneZ p n C L (kap r)).1 (zoneZ p n C L (kap r)).2 = zoneZ (pm [a] p) n C (L.filter (keepP (pm [a] p) n C)) (kap r) := by
  have hc : ∀ x, clsZ (pm [a] p) n C x = (putZ (clsZ p n C x).1 a false, (clsZ p n C x).2) := fun x => by
    unfold clsZ
    rw [attrZ_less _ n hn]
    congr 1
    apply attrZ_congr
    intro k _
    unfold pm
    by_cases e : (k : Int) = a
    · simp [e]
    · simp only [List.all_cons, List.all_nil, Bool.and_true]
      congr 1
      rw [Bool.eq_iff_iff]; simp; omega
  have hd := dropGo_zone a r (clsZ p n C) (clsZ (pm [a] p) n C) (fun x hx => ?_) (fun x _ => hc x) L [] (by simpa using hs) (fun x hx => by simpa [keepP] using hne x hx)
  · unfold dropZ zoneZ
    simp only
    rw [if_pos (by rw [gapsZ_len, List.length_map]), List.length_map]
    simp only [List.length_nil, List.map_nil, List.nil_append] at hd
    exact hd
  · rw [hc x]
    refine Prod.ext ?_ rfl
    show putZ (clsZ p n C x).1 a false = (clsZ p n C x).1
    unfold clsZ at hx ⊢
    dsimp only at hx ⊢
    rw [attrZ_less _ n hn]
    apply attrZ_congr
    intro k hk
    by_cases e : (k : Int) = a
    · cases hp : p x k
      · rfl
      · exfalso
        rw [(attrZ_has (p x) n hn a).2 ⟨k, e, hk, hp⟩] at hx
        cases hx
    · simp [e]

theorem pm_nil (p : Int → Nat → Bool) : pm [] p = p := by funext x k; simp [pm]
theorem pm_cons (a : Int) (l : List Int) (p : Int → Nat → Bool) : pm l (pm [a] p) = pm (a :: l) p := by
  funext x k; simp [pm, Bool.and_assoc]
theorem keep_mono (l m : List Int) (p : Int → Nat → Bool) (n : Nat) (hn : n ≤ 31) (C : List Int) (x : Int) (h : ∀ a ∈ m, a ∈ l) (hk : keepP (pm l p) n C x = true) : keepP (pm m p) n C x = true := by
  rw [keepP_iff _ n hn] at hk ⊢
  rcases hk with ⟨k, h1, h2⟩ | hx
  · refine .inl ⟨k, h1, ?_⟩
    simp only [pm, Bool.and_eq_true, List.all_eq_true] at h2 ⊢
    exact ⟨h2.1, fun a ha => h2.2 a (h a ha)⟩
  · exact .inr hx

theorem all_zone (n : Nat) (hn : n ≤ 31) (C : List Int) (r : Int) : ∀ (l : List Int) (p : Int → Nat → Bool) (L : List Int), L.Pairwise (· < ·) → (∀ x ∈ L, keepP p n C x = true) →
    allZ r l (zoneZ p n C L (kap r)) = zoneZ (pm l p) n C (L.filter (keepP (pm l p) n C)) (kap r)
  | [], p, L, _, hk => by
    rw [pm_nil, List.filter_eq_self.2 hk]; rfl
  | a :: l, p, L, hs, hk => by
    have hd := drop_zone p n hn C L a r hs hk
    have ih := all_zone n hn C r l (pm [a] p) (L.filter (keepP (pm [a] p) n C)) (hs.filter _) (fun x hx => (List.mem_filter.1 hx).2)
    rw [pm_cons] at ih
    rw [show allZ r (a :: l) (zoneZ p n C L (kap r)) = allZ r l (dropZ a r (zoneZ p n C L (kap r)).1 (zoneZ p n C L (kap r)).2) from rfl, hd, ih, List.filter_filter]
    congr 1
    apply List.filter_congr
    intro x _
    cases h : keepP (pm (a :: l) p) n C x
    · rfl
    · rw [keep_mono (a :: l) [a] p n hn C x (by simp) h]; rfl

theorem clip_zone (L : List Int) (r : Int) : (gapsZ (kap r) L).map (fun g => klip g (r - 1)) = gapsZ (kap (r - 1)) L := by
  have hk : kap (r - 1) ≤ kap r := by
    unfold kap
    have : (2 : Nat) ^ kapE (r - 1) ≤ 2 ^ kapE r := Nat.pow_le_pow_right (by omega) (by unfold kapE; omega)
    omega
  have H : ∀ L : List Int, (gapsZ (kap r) L).map (fun g => klip g (r - 1)) = gapsZ (kap (r - 1)) L := by
    intro L
    induction L with
    | nil => rfl
    | cons a T ih =>
      cases T with
      | nil => rfl
      | cons b T =>
        simp only [gapsZ, List.map_cons] at ih ⊢
        rw [ih]
        congr 1
        unfold klip gapZ
        omega
  exact H L

/-- the numbers of some attributes -/
def selZ (vals : List Int) (inn : List Bool) (k : Nat) : List Int := ((List.range k).filter fun i => inn.getD i false).map fun i => vals.getD i 0
theorem selZ_succ (vals : List Int) (inn : List Bool) (k : Nat) : selZ vals inn (k + 1) = selZ vals inn k ++ if inn.getD k false then [vals.getD k 0] else [] := by
  unfold selZ
  rw [List.range_succ, List.filter_append, List.map_append]
  cases h : inn.getD k false
  · have e : [k].filter (fun i => inn.getD i false) = [] := by rw [List.filter_cons_of_neg (by rw [h]; simp)]; rfl
    rw [e]; simp
  · have e : [k].filter (fun i => inn.getD i false) = [k] := by rw [List.filter_cons_of_pos (by exact h)]; rfl
    rw [e]; simp
theorem selZ_len (vals : List Int) (inn : List Bool) (k : Nat) : (selZ vals inn k).length ≤ k := by
  unfold selZ
  rw [List.length_map]
  exact Nat.le_trans (List.length_filter_le _ _) (by simp)

def pZ (vals : List Int) (x : Int) (k : Nat) : Bool := vals.getD k 0 == x
def pS (vals : List Int) (inn : List Bool) (x : Int) (k : Nat) : Bool := inn.getD k false && (vals.getD k 0 == x)

theorem inZ_get (n : Nat) (l : List Int) (k : Nat) (hk : k < n) : (inZ n l).getD k false = l.all fun a => a != (k : Int) := by
  unfold inZ
  rw [List.getD_eq_getElem?_getD]
  simp [hk]

/-- what Of makes, without attributes, is what Some makes -/
theorem drop_some (vals consts l : List Int) (r : Int) (hv : vals.length ≤ 31) :
    allZ r l (zoneZ (pZ vals) vals.length (sortS consts) (sortS (vals ++ consts)) (kap r)) =
      zoneZ (pS vals (inZ vals.length l)) vals.length (sortS consts) (sortS (consts ++ selZ vals (inZ vals.length l) vals.length)) (kap r) := by
  have hk0 : ∀ x ∈ sortS (vals ++ consts), keepP (pZ vals) vals.length (sortS consts) x = true := by
    intro x hx
    rw [keepP_iff _ _ hv]
    rcases List.mem_append.1 (((sortS_ok _).2 x).1 hx) with h | h
    · obtain ⟨k, hk, e⟩ := List.mem_iff_getElem.1 h
      exact .inl ⟨k, hk, by unfold pZ; rw [List.getD_eq_getElem?_getD, List.getElem?_eq_getElem hk]; simp [e]⟩
    · exact .inr (((sortS_ok _).2 x).2 h)
  rw [all_zone _ hv _ r l _ _ (sortS_ok _).1 hk0]
  have hp : ∀ x k, k < vals.length → pm l (pZ vals) x k = pS vals (inZ vals.length l) x k := fun x k hk => by
    unfold pm pS pZ; rw [inZ_get _ _ _ hk, Bool.and_comm]
  have hL : (sortS (vals ++ consts)).filter (keepP (pm l (pZ vals)) vals.length (sortS consts)) = sortS (consts ++ selZ vals (inZ vals.length l) vals.length) := by
    refine int_uniq ((sortS_ok _).1.filter _) (sortS_ok _).1 fun x => ?_
    rw [List.mem_filter, (sortS_ok _).2, (sortS_ok _).2, keepP_iff _ _ hv, (sortS_ok _).2, List.mem_append, List.mem_append]
    have hsel : x ∈ selZ vals (inZ vals.length l) vals.length ↔ ∃ k, k < vals.length ∧ pm l (pZ vals) x k = true := by
      unfold selZ
      simp only [List.mem_map, List.mem_filter, List.mem_range]
      constructor
      · rintro ⟨k, ⟨h1, h2⟩, e⟩
        exact ⟨k, h1, by rw [hp x k h1]; unfold pS; rw [h2, e]; simp⟩
      · rintro ⟨k, h1, h2⟩
        rw [hp x k h1] at h2
        unfold pS at h2
        simp only [Bool.and_eq_true, beq_iff_eq] at h2
        exact ⟨k, ⟨h1, h2.1⟩, h2.2⟩
    rw [hsel]
    constructor
    · rintro ⟨_, h | h⟩
      · exact .inr h
      · exact .inl h
    · rintro (h | ⟨k, h1, h2⟩)
      · exact ⟨.inr h, .inr h⟩
      · refine ⟨.inl ?_, .inl ⟨k, h1, h2⟩⟩
        unfold pm pZ at h2
        simp only [Bool.and_eq_true, beq_iff_eq] at h2
        rw [← h2.1, List.getD_eq_getElem?_getD, List.getElem?_eq_getElem h1]
        exact List.getElem_mem h1
  rw [hL]
  unfold zoneZ
  congr 1
  apply List.map_congr_left
  intro x _
  exact clsZ_congr _ _ _ _ _ (fun k hk => hp x k hk)

/-- in whichever order -/
theorem all_order (vals consts : List Int) (l m : List Int) (r : Int) (hv : vals.length ≤ 31) (h : ∀ a, a ∈ l ↔ a ∈ m) :
    allZ r l (zoneZ (pZ vals) vals.length (sortS consts) (sortS (vals ++ consts)) (kap r)) = allZ r m (zoneZ (pZ vals) vals.length (sortS consts) (sortS (vals ++ consts)) (kap r)) := by
  have e : inZ vals.length l = inZ vals.length m := by
    unfold inZ
    apply List.map_congr_left
    intro k _
    rw [Bool.eq_iff_iff, List.all_eq_true, List.all_eq_true]
    exact ⟨fun H a ha => H a ((h a).2 ha), fun H a ha => H a ((h a).1 ha)⟩
  rw [drop_some vals consts l r hv, drop_some vals consts m r hv, e]

end Go.Proofs.YtkkoooagamadjaaGreatDoor
