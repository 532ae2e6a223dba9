/- Numbers of warderref22, In of warderref23. -/
import Derived.Test.YtjmggphnngffjaaSrt2
import Derived.Test.YtjmggphnngffjaaDrop4
import Derived.Laws.OwnMore
namespace Go.Proofs.Ytjmggphnngffjaa
open Go.RowKit

theorem run_append_nothing {P : Program} {w : World} {base : Nat} (t ty e : TypeId) (i : TypeInfo) (size cap0 : Nat) (ht : P.underlying t = some (.slice e)) (hi : P.info? e = some i)
    (v : Value) (n : Nat) (xs : List Value) (hown : w.ownsRow base e size v n xs) :
    (Builtin.append_ #[t, t] ty #[v, .slice none 0 cap0]).run P w = .ok v w := by
  rcases hown.2 with ⟨rfl, rfl⟩ | ⟨g, cap, cur, rfl, _, _, hnc, _⟩
  · simp [Builtin.append_, run_underlying ht, sizeOf, typeInfo, hi, Builtin.lenOf, Builtin.firstCells]
  · simp [Builtin.append_, run_underlying ht, sizeOf, typeInfo, hi, Builtin.lenOf, Builtin.firstCells, hnc, storeCells]

/-- 'out = append(out, l...)' of a slice that reads, one cell an element -/
theorem appR {P : Program} {ops : Array Oper} {rest : List Oper} {o : Oper} {a : Act} {Q : Exit → Act → World → Prop} (w : World) (hgd : o.guard = none) (s x : Operand) (t : TypeId)
    (ho : o.op = .call { callee := .builtin .append, args := #[s, x], argTypes := #[t, t] })
    (base : Nat) (e : TypeId) (z : Value) (bytes : Nat) (ht : P.underlying t = some (.slice e)) (hinfo : (P.info? e).map (fun i => (i.zero, i.size, i.bytes)) = some (some z, 1, bytes))
    (hzs : z.cells.size = 1) (hby : 0 < bytes)
    (v : Value) (n : Nat) (xs : List Value) (hs : a.eval s = v) (hown : w.ownsRow base e 1 v n xs)
    (vx : Value) (news : List Value) (hx : a.eval x = vx) (hr : Reads w vx news) (h1 : ∀ u ∈ news, u.oneCell' = true)
    (hbytes : (n + news.length) * bytes ≤ 140737488355328) (hbase : base ≤ w.heap.size)
    (h : ∀ v' w', w'.ownsRow base e 1 v' (n + news.length) (xs ++ news) → Below base w w' → wpList P ops Q rest (a.put o.dst v') w') :
    wpList P ops Q (o :: rest) a w := by
  obtain ⟨i, hi, hz0, hz1, hz2⟩ := info_parts hinfo
  have h63 : n + news.length ≤ maxLen := by
    have : (n + news.length) * 1 ≤ (n + news.length) * bytes := Nat.mul_le_mul_left _ hby
    unfold maxLen; omega
  have key : ∀ ad m c, vx = .slice (some ad) m c → news.length = m → (∀ j u, news[j]? = some u → w.cell? (ad.add j) = some u) → wpList P ops Q (o :: rest) a w := by
    intro ad m c hv hm hnews
    refine wpList_append_own w hgd s x t ho base e i z 1 bytes ht hi hz0 hz1 hz2 hzs Nat.one_pos v n xs hs hown ad m c news (hx.trans hv) (by omega) hnews h1 (by omega) (by rw [← hm]; exact hbytes) hbase ?_
    intro v' w' ho' hg _
    exact h v' w' (by rw [hm]; exact ho') (below_of_grown hg (fun k hk => (hown.lt k hk).1) hbase)
  rcases hr with ⟨ad, cap, hv, hn⟩ | ⟨b, off, cap, hv, _, _, hc⟩
  · cases ad with
    | some ad => exact key ad 0 cap hv (by rw [hn]; rfl) (by rw [hn]; intro j u hu; simp at hu)
    | none =>
      subst hn
      refine wpList_plain hgd fun K hK => ?_
      have hrun := run_append_nothing (P := P) (w := w) (base := base) t o.type e i 1 cap ht hi v n xs hown
      have hx' : a.eval x = .slice none 0 cap := hx.trans hv
      unfold Oper.wp
      simp [execOp, ho, resolve, invoke, builtin, hs, hx', hrun, Result.andThen]
      exact hK _ _ (h v w (by simpa using hown) (Below.refl _ _))
  · refine key ⟨b, off, none⟩ _ cap hv rfl (fun j u hu => ?_)
    have : (⟨b, off, none⟩ : Addr).add j = ⟨b, off + j, none⟩ := by unfold Addr.add; split <;> simp_all
    rw [this]; exact hc j u hu

set_option maxHeartbeats 1000000 in
theorem rnumbers_any (v1 v2 : Value) (l1 l2 : List Int) (w : World) (h1 : Reads w v1 (ints l1)) (h2 : Reads w v2 (ints l2)) (hl1 : l1.length ≤ 10000) (hl2 : l2.length ≤ 10000) :
    Calls Try.prog 41 #[v1, v2] w fun e w' => ∃ v', e = .returned v' ∧ w'.ownsRow w.heap.size 2 1 v' (sortS (l1 ++ l2)).length (ints (sortS (l1 ++ l2))) ∧ Below w.heap.size w w' := by
  have hb0 : Below w.heap.size w (w.alloc (.cells #[] 2)) := (Below.refl _ w).alloc (Nat.le_refl _) _
  have own0 : (w.alloc (.cells #[] 2)).ownsRow w.heap.size 2 1 (.slice (some ⟨w.heap.size, 0, none⟩) 0 0) 0 [] := World.ownsRow_lit w #[] 0 (Nat.le_refl _) (Nat.zero_le _) rfl
  have r1 := h1.below (Nat.le_refl _) hb0
  have hlen1 := ints_len l1
  have hlen2 := ints_len l2
  have H2 := Lib.hid h2
  have HB0 := Lib.hid hb0
  clear h2 hb0 h1
  go_enter Try.func41, Try.ntmps41
  go_wp2_with (first
    | (at_builtin; refine appR _ rfl _ _ 35 rfl w.heap.size 2 (.int .i64 0) 8 Try.underlying35 info_int64 rfl (by decide) _ 0 [] rfl (by exact own0) _ _ rfl r1 (ints_one _) (by rw [hlen1]; omega) (by simp) ?_; clear own0; intro v' w1 hown1 hb1)
    | (at_builtin; refine appR _ rfl _ _ 35 rfl w.heap.size 2 (.int .i64 0) 8 Try.underlying35 info_int64 rfl (by decide) _ _ _ rfl (by exact hown1) _ _ rfl (H2.out.below (Nat.le_refl _) (HB0.out.trans hb1)) (ints_one _) (by rw [hlen1, hlen2]; omega) (HB0.out.trans hb1).size ?_; intro v'' w2 hown2 hb2)
    | fail)
  have hB : Below w.heap.size w w2 := (HB0.out.trans hb1).trans hb2
  have hR : Reads w2 v'' (ints (l1 ++ l2)) := by
    have := Reads.of_owns hown2
    simpa [ints] using this
  have HB := Lib.hid hB
  clear hown1 hown2 hb1 hb2 hB r1 hlen1 hlen2
  refine (rsorted_any v'' (l1 ++ l2) w2 hR (by simp; omega)).mono ?_
  rintro e w3 ⟨v3, rfl, ho3, hb3⟩
  have ho4 := owns_mono ho3 HB.out.size
  have hb4 := HB.out.trans (hb3.mono HB.out.size)
  clear ho3 hb3 hR
  go_wp2
  go_ret
  exact ⟨_, rfl, ho4, hb4⟩

/-- which of so many attributes are not in a list -/
def inZ (n : Nat) (l : List Int) : List Bool := (List.range n).map fun i : Nat => l.all fun a => a != (i : Int)
theorem inZ_len (n : Nat) (l : List Int) : (inZ n l).length = n := by simp [inZ]
theorem inZ_succ (n : Nat) (l : List Int) : inZ (n + 1) l = inZ n l ++ [l.all fun a => a != (n : Int)] := by simp [inZ, List.range_succ]
theorem all_succ (l : List Int) (k : Nat) (a i : Int) (h : l[k]? = some a) : (l.take (k + 1)).all (fun a => a != i) = ((l.take k).all (fun a => a != i) && (a != i)) := by
  obtain ⟨hk, rfl⟩ := List.getElem?_eq_some_iff.1 h
  rw [List.take_succ_eq_append_getElem hk, List.all_append]; simp

set_option maxRecDepth 100000 in
set_option maxHeartbeats 4000000 in
theorem rin_any (n : Nat) (v : Value) (l : List Int) (w : World) (hv : Reads w v (ints l)) (hn : n ≤ 10000) :
    Calls Try.prog 14 #[.int .i64 n, v] w fun e w' => ∃ v', e = .returned v' ∧ w'.ownsRow w.heap.size 4 1 v' n (bools (inZ n l)) ∧ Below w.heap.size w w' := by
  obtain ⟨q, hq⟩ : ∃ q, l.length = q := ⟨_, rfl⟩
  obtain ⟨adl, capl, rfl, hqm⟩ := hv.len
  rw [ints_len, hq] at hv hqm ⊢
  have HQ := Lib.hid hq
  have HV := Lib.hid hv
  unfold maxLen at hqm
  clear hq hv
  go_enter Try.func14, Try.ntmps14
  go_wp2
  go_loopw [5, 6, 7, 8] (fun out i _ _ wr => ∃ k : Nat, i = .int .i64 k ∧ k ≤ n ∧ wr.ownsRow w.heap.size 4 1 out k (bools (inZ k l)) ∧ Below w.heap.size w wr) (fun _ i _ _ _ => n - (intOf i).toNat)
  case atStart => exact ⟨0, rfl, Nat.zero_le _, World.ownsRow_nil _ _ _ _, Below.refl _ _⟩
  case round =>
    obtain ⟨k, rfl, hk, hown, hb⟩ := hrel
    obtain ⟨w1, rfl⟩ : ∃ w1, w1 = wr := ⟨_, rfl⟩
    by_cases hlt : k < n
    · have p1 : (k : Int) < (n : Int) := by omega
      have HV1 := Lib.hid (HV.out.below (Nat.le_refl _) hb)
      have HO := Lib.hid hown
      have hsz := hb.size
      have HB := Lib.hid hb
      clear hown hb
      go_wp2
      go_loopw [7, 8] (fun is kk wr => ∃ (j : Nat) (b : Bool), kk = .int .i64 j ∧ is = .bool b ∧ j ≤ q ∧ Hid ((l.take j).all (fun a => a != (k : Int)) = b) ∧ wr = w1) (fun _ kk _ => q - (intOf kk).toNat)
      case atStart => exact ⟨0, true, rfl, rfl, Nat.zero_le _, rfl, rfl⟩
      case round =>
        obtain ⟨j, b, rfl, rfl, hj, HI, rfl⟩ := hrel
        by_cases hjq : j < q
        · have hjl : j < l.length := by rw [HQ.out]; exact hjq
          obtain ⟨x, hx⟩ : ∃ x, l[j]? = some x := ⟨_, List.getElem?_eq_getElem hjl⟩
          obtain ⟨bl, ol, rfl, hcl⟩ := HV1.out.at (by omega)
          have k1 : wr.cell? ⟨bl, ol + j, none⟩ = some (.int .i64 x) := hcl j _ (by simp [ints, hx])
          have HS : Hid ((l.take (j + 1)).all (fun a => a != (k : Int)) = (b && (x != (k : Int)))) := by unfold Hid; rw [all_succ l j x _ hx, HI.out]
          have p2 : (j : Int) < (q : Int) := by omega
          clear hx hcl
          cases b
          · go_wp2
            go_roundw
            case rel => exact ⟨j + 1, _, by go_num, rfl, by omega, HS, by first | rfl | trivial⟩
            case measure => simp [intOf]; omega
          · go_wp2
            go_roundw
            case rel => exact ⟨j + 1, _, by go_num, rfl, by omega, HS, by first | rfl | trivial⟩
            case measure => simp [intOf]; omega
        · obtain rfl : j = q := by omega
          have HS : Hid (inZ (k + 1) l = inZ k l ++ [b]) := by
            have := HI.out
            rw [← HQ.out, List.take_length] at this
            unfold Hid; rw [inZ_succ, this]
          have hown := HO.out
          go_wp2_with (at_builtin; refine app1 wr #[.bool b] rfl _ _ 37 rfl w.heap.size 4 (.bool false) 1 1 Try.underlying37 info_bool rfl (by decide) (by decide) _ _ _ rfl (by exact hown) rfl (by simp) rfl (by simp [Value.oneCell']) (by omega) hsz ?_; intro v' w2 hown' hg' hb')
          exact ⟨⟨k + 1, by go_num, by omega, by rw [HS.out]; simpa [bools] using hown', HB.out.trans hb'⟩, by simp [intOf]; omega⟩
    · obtain rfl : k = n := by omega
      go_wp2
      go_ret
      exact ⟨_, rfl, hown, hb⟩

end Go.Proofs.Ytjmggphnngffjaa
