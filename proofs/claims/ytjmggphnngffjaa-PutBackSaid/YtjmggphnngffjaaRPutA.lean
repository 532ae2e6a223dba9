/- warderref24: clipped; append of rows that lie anywhere. -/
import Derived.Test.YtjmggphnngffjaaPutI
namespace Go.Proofs.Ytjmggphnngffjaa
open Go.RowKit Go.Shelf

theorem append_nothing {P : Program} {w : World} {base : Nat} (t ty e : TypeId) (i : TypeInfo) (size cap0 : Nat) (ht : P.underlying t = some (.slice e)) (hi : P.info? e = some i)
    (v : Value) (n : Nat) (xs : List Value) (hown : w.ownsRow base e size v n xs) :
    (Builtin.append_ #[t, t] ty #[v, .slice none 0 cap0]).run P w = .ok v w := by
  rcases hown.2 with ⟨rfl, rfl⟩ | ⟨g, cap, cur, rfl, _, _, hnc, _⟩
  · simp [Builtin.append_, run_underlying ht, sizeOf, typeInfo, hi, Builtin.lenOf, Builtin.firstCells]
  · simp [Builtin.append_, run_underlying ht, sizeOf, typeInfo, hi, Builtin.lenOf, Builtin.firstCells, hnc, storeCells]

/-- append of a row that lies anywhere -/
theorem appK_run {P : Program} (w : World) (t ty e : TypeId) (z : Value) (size bytes base : Nat) (ht : P.underlying t = some (.slice e)) (hinfo : (P.info? e).map (fun i => (i.zero, i.size, i.bytes)) = some (some z, size, bytes))
    (hzs : z.cells.size = size) (hsz : 0 < size) (hby : 0 < bytes) (v : Value) (n : Nat) (xs : List Value) (hown : w.ownsRow base e size v n xs) (vx : Value) (m : Nat) (news : List Value) (hr : RdK w size vx m news)
    (h1 : ∀ u ∈ news, u.oneCell' = true) (hbytes : (n + m) * bytes ≤ 140737488355328) (hbase : base ≤ w.heap.size) :
    ∃ v' w', (Builtin.append_ #[t, t] ty #[v, vx]).run P w = .ok v' w' ∧ w'.ownsRow base e size v' (n + m) (xs ++ news) ∧ w.grownBy w' v.ownBlock := by
  obtain ⟨i, hi, hz0, hz1, hz2⟩ := info_parts hinfo
  have h63 : n + m ≤ maxLen := by
    have : (n + m) * 1 ≤ (n + m) * bytes := Nat.mul_le_mul_left _ hby
    unfold maxLen; omega
  obtain ⟨ad, cap, rfl, hl, hs⟩ := hr
  have key : ∀ ad', ad = some ad' → (∀ j u, news[j]? = some u → w.cell? (ad'.add j) = some u) → ∃ v' w', (Builtin.append_ #[t, t] ty #[v, .slice ad m cap]).run P w = .ok v' w' ∧ w'.ownsRow base e size v' (n + m) (xs ++ news) ∧ w.grownBy w' v.ownBlock := by
    rintro ad' rfl hc
    obtain ⟨v', w', h2, h3, h4, _⟩ := run_append_own (P := P) w base t ty e i z size bytes ht hi hz0 hz1 hz2 hzs hsz v n xs hown ad' m cap news hl hc h1 h63 hbytes hbase
    exact ⟨v', w', h2, h3, h4⟩
  rcases hs with h0 | ⟨b, off, ha, _, hc⟩
  · subst h0
    have hn : news = [] := List.eq_nil_of_length_eq_zero (by omega)
    subst hn
    cases ad with
    | none => exact ⟨v, w, append_nothing t ty e i size cap ht hi v n xs hown, by simpa using hown, ⟨rfl, rfl, rfl, Nat.le_refl _, fun _ _ _ => rfl⟩⟩
    | some ad' => exact key ad' rfl (fun j u hu => by simp at hu)
  · exact key _ ha (fun j u hu => by rw [Addr.add_lit]; exact hc j u hu)

theorem step_append_known {P : Program} {ops : Array Oper} {o : Oper} {a : Act} {w : World} {K : Act → World → Prop} {Q : Exit → Act → World → Prop} {E : Prop}
    (hg : o.guard = none) (s x : Operand) (t u : TypeId) (hop : o.op = Op.call { callee := Callee.builtin Builtin.append, args := #[s, x], argTypes := #[t, u] })
    (vs vx : Value) (hs : a.eval s = vs) (hx : a.eval x = vx) (v' : Value) (w' : World) (hr : (Builtin.append_ #[t, u] o.type #[vs, vx]).run P w = .ok v' w') (hK : K (a.put o.dst v') w') :
    if Region.wanted o (yielded ops a.tmps) = true then Oper.wp P o a w K Q else E := by
  have hw : Region.wanted o (yielded ops a.tmps) = true := by simp [Region.wanted, hg]
  rw [if_pos hw]
  unfold Oper.wp
  simp [execOp, hop, resolve, invoke, builtin, hs, hx, hr, Result.andThen]
  exact hK

theorem clipL_take (gl : List Int) (r : Int) (k : Nat) (x : Int) (h : gl[k]? = some x) : clipL (gl.take (k + 1)) r = clipL (gl.take k) r ++ [klip x r] := by
  obtain ⟨h1, h2⟩ := List.getElem?_eq_some_iff.1 h
  rw [List.take_succ_eq_append_getElem h1, h2]; simp [clipL]

set_option maxRecDepth 100000 in
set_option maxHeartbeats 1000000 in
theorem rclipped_any {w : World} {v : Value} {gl : List Int} (r : Int) (hv : RdK w 1 v gl.length (ints gl)) (hl : gl.length ≤ 65536) :
    Calls Try.prog 65 #[v, .int .i64 r] w fun e w' => ∃ v', e = .returned v' ∧ w'.ownsRow w.heap.size 3 1 v' gl.length (ints (clipL gl r)) ∧ Below w.heap.size w w' := by
  obtain ⟨ad, cap, rfl⟩ := hv.len
  obtain ⟨n, hn⟩ : ∃ n, gl.length = n := ⟨_, rfl⟩
  have HN := Lib.hid hn
  rw [hn] at hv hl ⊢
  have HV := Lib.hid hv
  clear hv hn
  go_enter Try.func65, Try.ntmps65
  go_wp2
  go_loopw [5, 6] (fun out i wr => ∃ k : Nat, i = .int .i64 k ∧ k ≤ n ∧ wr.ownsRow w.heap.size 3 1 out k (ints (clipL (gl.take k) r)) ∧ Below w.heap.size w wr) (fun _ i _ => n - (intOf i).toNat)
  case atStart => exact ⟨0, rfl, Nat.zero_le _, World.ownsRow_nil _ _ _ _, Below.refl _ _⟩
  case round =>
    obtain ⟨k, rfl, hk, hown, hb⟩ := hrel
    by_cases hlt : k < n
    · have hkn : (k : Int) < (n : Int) := by omega
      obtain ⟨x, hx⟩ : ∃ x, gl[k]? = some x := ⟨_, List.getElem?_eq_getElem (by rw [HN.out]; exact hlt)⟩
      obtain ⟨gb, go, rfl, hgbl, hgc⟩ := (HV.out.below hb).at (by omega)
      have cg : wr.cell? ⟨gb, go + k, none⟩ = some (.int .i64 x) := hgc k _ (by simp [ints, hx])
      have HS := Lib.hid (clipL_take gl r k x hx)
      obtain ⟨y, hy⟩ : ∃ y, klip x r = y := ⟨_, rfl⟩
      have HY := Lib.hid hy
      have HB := Lib.hid hb
      have HO := Lib.hid hown
      have hsz := hb.size
      obtain ⟨oad, ocap, rfl⟩ := owns_len hown
      clear hx hgc hy hb hown
      go_wp2_with fail
      refine (rclip_any x r _).mono ?_
      rintro e w' ⟨rfl, rfl⟩
      rw [HY.out]
      go_wp2_with (first | (at_builtin; refine app1 wr #[.int .i64 y] rfl _ _ 39 rfl w.heap.size 3 (.int .i64 0) 1 8 Try.underlying39 info_int rfl (by decide) (by decide) _ _ _ rfl (by exact HO.out) rfl (by simp) rfl (by simp [Value.oneCell']) (by omega) hsz ?_; intro v' w2 hown' hg' hb') | fail)
      have HF : Hid (w2.ownsRow w.heap.size 3 1 v' (k + 1) (ints (clipL (gl.take (k + 1)) r)) ∧ Below w.heap.size w w2) := by
        unfold Hid
        rw [HS.out, HY.out]
        exact ⟨by simpa [ints] using hown', HB.out.trans hb'⟩
      clear hown' hg' hb'
      go_wp2
      go_roundw
      case rel => exact ⟨k + 1, by go_num, by omega, HF.out.1, HF.out.2⟩
      case measure => simp [intOf]; omega
    · obtain rfl : k = n := by omega
      rw [show gl.take k = gl from by rw [← HN.out]; exact List.take_length] at hown
      obtain ⟨oad, ocap, rfl⟩ := owns_len hown
      have HO := Lib.hid hown
      have HB := Lib.hid hb
      clear hown hb
      go_wp2
      go_ret
      exact ⟨_, rfl, HO.out, HB.out⟩

end Go.Proofs.Ytjmggphnngffjaa
