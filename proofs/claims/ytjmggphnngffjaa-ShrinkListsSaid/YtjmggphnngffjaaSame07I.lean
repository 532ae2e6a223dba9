/- Contract of warderref07.Same, for two slices of the same statements, wherever they lie (printed by gen_in.py). -/
import Derived.Test.YtjmggphnngffjaaLikeI
import Derived.Deep.RegionHeld3
import Derived.Deep.DeepCutAuto
namespace Go.Proofs.Ytjmggphnngffjaa
open Go.RowKit

set_option maxRecDepth 100000 in
set_option maxHeartbeats 40000000 in
theorem same07_in {w : World} {u v : Value} {A : List Sm} (ha : SmIn w u A) (hb : SmIn w v A) (hok : ∀ x ∈ A, SmOK w x ∧ SmLen x) (hA : A.length ≤ 9223372036854775807) :
    Calls Try.prog 11 #[u, v, .bool true] w fun e w' => e = .returned (.bool true) ∧ Below w.heap.size w w' := by
  obtain ⟨ad, cap, hu⟩ := ha.len
  obtain ⟨ad2, cap2, hv⟩ := hb.len
  have HA := Lib.hid ha
  have HB := Lib.hid hb
  have HOK := Lib.hid hok
  subst hu
  subst hv
  clear ha hb hok
  go_enter Try.func11, Try.ntmps11
  go_wp2
  go_loopw [7] (fun i wr => ∃ k : Nat, i = .int .i64 k ∧ k ≤ A.length ∧ Hid (Below w.heap.size w wr)) (fun i _ => A.length - (intOf i).toNat)
  case atStart => exact ⟨0, by go_num, by omega, Below.refl _ _⟩
  case round =>
    obtain ⟨k, rfl, hk, HBR⟩ := hrel
    by_cases hlt : k < A.length
    · obtain ⟨x, hx⟩ : ∃ x, A[k]? = some x := ⟨_, List.getElem?_eq_getElem hlt⟩
      have hxm := List.mem_of_getElem? hx
      obtain ⟨g, off, c1, hg, hgl, -⟩ := (HA.out.keep HBR.out).at hx
      obtain ⟨g2, off2, c2, hg2, hgl2, -⟩ := (HB.out.keep HBR.out).at hx
      simp only [Value.slice.injEq, true_and] at hg hg2
      obtain ⟨rfl, rfl⟩ := hg
      obtain ⟨rfl, rfl⟩ := hg2
      have HX : Hid (∀ W, Below wr.heap.size wr W → (W.cell? ⟨g, off + k * 12, none⟩ = some (.int .i64 x.kind) ∧ W.cell? ⟨g, off + k * 12 + 1, none⟩ = some (.string x.name) ∧ W.cell? ⟨g, off + k * 12 + 2, none⟩ = some (.int .i64 x.line) ∧ W.cell? ⟨g, off + k * 12 + 3, none⟩ = some (.int .i64 x.col) ∧ W.cell? ⟨g, off + k * 12 + 4, none⟩ = some (.int .i64 x.init) ∧ W.cell? ⟨g, off + k * 12 + 5, none⟩ = some x.nv ∧ W.cell? ⟨g, off + k * 12 + 6, none⟩ = some (.string x.role) ∧ W.cell? ⟨g, off + k * 12 + 7, none⟩ = some (.string x.stage) ∧ W.cell? ⟨g, off + k * 12 + 8, none⟩ = some (.string x.event) ∧ W.cell? ⟨g, off + k * 12 + 9, none⟩ = some (.int .i64 x.times) ∧ W.cell? ⟨g, off + k * 12 + 10, none⟩ = some x.iv ∧ W.cell? ⟨g, off + k * 12 + 11, none⟩ = some (.bool x.final) ∧ W.cell? ⟨g2, off2 + k * 12, none⟩ = some (.int .i64 x.kind) ∧ W.cell? ⟨g2, off2 + k * 12 + 1, none⟩ = some (.string x.name) ∧ W.cell? ⟨g2, off2 + k * 12 + 2, none⟩ = some (.int .i64 x.line) ∧ W.cell? ⟨g2, off2 + k * 12 + 3, none⟩ = some (.int .i64 x.col) ∧ W.cell? ⟨g2, off2 + k * 12 + 4, none⟩ = some (.int .i64 x.init) ∧ W.cell? ⟨g2, off2 + k * 12 + 5, none⟩ = some x.nv ∧ W.cell? ⟨g2, off2 + k * 12 + 6, none⟩ = some (.string x.role) ∧ W.cell? ⟨g2, off2 + k * 12 + 7, none⟩ = some (.string x.stage) ∧ W.cell? ⟨g2, off2 + k * 12 + 8, none⟩ = some (.string x.event) ∧ W.cell? ⟨g2, off2 + k * 12 + 9, none⟩ = some (.int .i64 x.times) ∧ W.cell? ⟨g2, off2 + k * 12 + 10, none⟩ = some x.iv ∧ W.cell? ⟨g2, off2 + k * 12 + 11, none⟩ = some (.bool x.final))) := by
        intro W hW
        have hBW := HBR.out.trans (hW.mono HBR.out.size)
        obtain ⟨g', o', c', q, _, a0, a1, a2, a3, a4, a5, a6, a7, a8, a9, a10, a11⟩ := (HA.out.keep hBW).at hx
        obtain ⟨g2', o2', c2', q2, _, b0, b1, b2, b3, b4, b5, b6, b7, b8, b9, b10, b11⟩ := (HB.out.keep hBW).at hx
        simp only [Value.slice.injEq, Option.some.injEq, Addr.mk.injEq, true_and, and_true] at q q2
        obtain ⟨⟨rfl, rfl⟩, rfl⟩ := q
        obtain ⟨⟨rfl, rfl⟩, _⟩ := q2
        exact ⟨a0, a1, a2, a3, a4, a5, a6, a7, a8, a9, a10, a11, b0, b1, b2, b3, b4, b5, b6, b7, b8, b9, b10, b11⟩
      have HLK : Hid (∀ W, Below wr.heap.size wr W → Calls Try.prog 31 #[.agg #[.int .i64 x.kind, .string x.name, .int .i64 x.line, .int .i64 x.col, .int .i64 x.init, x.nv, .string x.role, .string x.stage, .string x.event, .int .i64 x.times, x.iv, .bool x.final], .agg #[.int .i64 x.kind, .string x.name, .int .i64 x.line, .int .i64 x.col, .int .i64 x.init, x.nv, .string x.role, .string x.stage, .string x.event, .int .i64 x.times, x.iv, .bool x.final]] W fun e w' => e = .returned (.bool true) ∧ Below W.heap.size W w') := fun W hW =>
        like_in ((HOK.out x hxm).1.keep (HBR.out.trans (hW.mono HBR.out.size))) (HOK.out x hxm).2
      have HEX : Hid (∀ W, Below wr.heap.size wr W → Calls Try.prog 32 #[x.iv, x.iv] W fun e w' => e = .returned (.bool true) ∧ ∃ n, w' = W.drewN n) := fun W hW =>
        exact_in ((HOK.out x hxm).1.keep (HBR.out.trans (hW.mono HBR.out.size))).2 ((HOK.out x hxm).1.keep (HBR.out.trans (hW.mono HBR.out.size))).2 (HOK.out x hxm).2.2
      clear hxm
      have hkz : (k : Int) < (A.length : Int) := by omega
      clear hx
      have hbz : Below wr.heap.size wr wr := Below.refl _ _
      go_wp2_with fail
      go_cut [58] (fun c wx => c = .bool false ∧ Hid (Below wr.heap.size wr wx))
      case first =>
        obtain ⟨a0, a1, a2, a3, a4, a5, a6, a7, a8, a9, a10, a11, b0, b1, b2, b3, b4, b5, b6, b7, b8, b9, b10, b11⟩ := HX.out wr hbz
        have hbz : Below wr.heap.size wr wr.drew := (Below.refl _ _).drew
        refine wp_region_held_drew (S := (fun w' => w'.cell? ⟨g, off + k * 12, none⟩ = some (.int .i64 x.kind) ∧ w'.cell? ⟨g, off + k * 12 + 1, none⟩ = some (.string x.name) ∧ w'.cell? ⟨g, off + k * 12 + 2, none⟩ = some (.int .i64 x.line) ∧ w'.cell? ⟨g, off + k * 12 + 3, none⟩ = some (.int .i64 x.col) ∧ w'.cell? ⟨g, off + k * 12 + 4, none⟩ = some (.int .i64 x.init) ∧ w'.cell? ⟨g, off + k * 12 + 5, none⟩ = some x.nv ∧ w'.cell? ⟨g, off + k * 12 + 6, none⟩ = some (.string x.role) ∧ w'.cell? ⟨g, off + k * 12 + 7, none⟩ = some (.string x.stage) ∧ w'.cell? ⟨g, off + k * 12 + 8, none⟩ = some (.string x.event) ∧ w'.cell? ⟨g, off + k * 12 + 9, none⟩ = some (.int .i64 x.times) ∧ w'.cell? ⟨g, off + k * 12 + 10, none⟩ = some x.iv ∧ w'.cell? ⟨g, off + k * 12 + 11, none⟩ = some (.bool x.final) ∧ w'.cell? ⟨g2, off2 + k * 12, none⟩ = some (.int .i64 x.kind) ∧ w'.cell? ⟨g2, off2 + k * 12 + 1, none⟩ = some (.string x.name) ∧ w'.cell? ⟨g2, off2 + k * 12 + 2, none⟩ = some (.int .i64 x.line) ∧ w'.cell? ⟨g2, off2 + k * 12 + 3, none⟩ = some (.int .i64 x.col) ∧ w'.cell? ⟨g2, off2 + k * 12 + 4, none⟩ = some (.int .i64 x.init) ∧ w'.cell? ⟨g2, off2 + k * 12 + 5, none⟩ = some x.nv ∧ w'.cell? ⟨g2, off2 + k * 12 + 6, none⟩ = some (.string x.role) ∧ w'.cell? ⟨g2, off2 + k * 12 + 7, none⟩ = some (.string x.stage) ∧ w'.cell? ⟨g2, off2 + k * 12 + 8, none⟩ = some (.string x.event) ∧ w'.cell? ⟨g2, off2 + k * 12 + 9, none⟩ = some (.int .i64 x.times) ∧ w'.cell? ⟨g2, off2 + k * 12 + 10, none⟩ = some x.iv ∧ w'.cell? ⟨g2, off2 + k * 12 + 11, none⟩ = some (.bool x.final))) (by kernel_rfl) ?_ (fun hHeld => ?_)
        · exact HX.out _ hbz
        refine wpAnyH_take (i := 0) (v := ?v0) rfl (by kernel_rfl) (by kernel_rfl) (by kernel_rfl) (fun _ _ _ h => h) (Or.inl ⟨by rfl, ?y0⟩) (by assumption) ?r0
        case y0 => ((intro w hSw; (try dsimp only at hSw); go_simp) <;> (try with_reducible rfl))
        (try go_simp)
        refine wpAnyH_take (i := 1) (v := ?v1) rfl (by kernel_rfl) (by kernel_rfl) (by kernel_rfl) (fun _ _ _ h => h) (Or.inl ⟨by rfl, ?y1⟩) (by assumption) ?r1
        case y1 => ((intro w hSw; (try dsimp only at hSw); go_simp) <;> (try with_reducible rfl))
        (try go_simp)
        refine wpAnyH_take (i := 2) (v := ?v2) rfl (by kernel_rfl) (by kernel_rfl) (by kernel_rfl) (fun _ _ _ h => h) (Or.inl ⟨by rfl, ?y2⟩) (by assumption) ?r2
        case y2 => ((intro w hSw; (try dsimp only at hSw); go_simp) <;> (try with_reducible rfl))
        (try go_simp)
        refine wpAnyH_take (i := 3) (v := ?v3) rfl (by kernel_rfl) (by kernel_rfl) (by kernel_rfl) (fun _ _ _ h => h) (Or.inl ⟨by rfl, ?y3⟩) (by assumption) ?r3
        case y3 => ((intro w hSw; (try dsimp only at hSw); go_simp) <;> (try with_reducible rfl))
        (try go_simp)
        refine wpAnyH_take (i := 4) (v := ?v4) rfl (by kernel_rfl) (by kernel_rfl) (by kernel_rfl) (fun _ _ _ h => h) (Or.inl ⟨by rfl, ?y4⟩) (by assumption) ?r4
        case y4 => ((intro w hSw; (try dsimp only at hSw); go_simp) <;> (try with_reducible rfl))
        (try go_simp)
        refine wpAnyH_take (i := 5) (v := ?v5) rfl (by kernel_rfl) (by kernel_rfl) (by kernel_rfl) (fun _ _ _ h => h) (Or.inl ⟨by rfl, ?y5⟩) (by assumption) ?r5
        case y5 => ((intro w hSw; (try dsimp only at hSw); go_simp) <;> (try with_reducible rfl))
        (try go_simp)
        refine wpAnyH_take (i := 6) (v := ?v6) rfl (by kernel_rfl) (by kernel_rfl) (by kernel_rfl) (fun _ _ _ h => h) (Or.inl ⟨by rfl, ?y6⟩) (by assumption) ?r6
        case y6 => ((intro w hSw; (try dsimp only at hSw); go_simp) <;> (try with_reducible rfl))
        (try go_simp)
        refine wpAnyH_take (i := 7) (v := ?v7) rfl (by kernel_rfl) (by kernel_rfl) (by kernel_rfl) (fun _ _ _ h => h) (Or.inl ⟨by rfl, ?y7⟩) (by assumption) ?r7
        case y7 => ((intro w hSw; (try dsimp only at hSw); go_simp) <;> (try with_reducible rfl))
        (try go_simp)
        refine wpAnyH_ready (rs := [8]) (by kernel_rfl) (by simp) ?_
        refine AllReadyH.cons rfl (fun K hK => ?_) AllReadyH.nil
        go_simp
        refine (HLK.out _ hbz).mono ?_
        rintro e w4 ⟨rfl, hbs⟩
        have hbz := hbz.trans (hbs.mono hbz.size)
        clear hbs
        refine hK.out _ _ ?_ (fun hHeld => ?_)
        · exact HX.out _ hbz
        clear hK K
        (try go_simp)
        refine wpAnyH_take (i := 9) (v := ?v9) rfl (by kernel_rfl) (by kernel_rfl) (by kernel_rfl) (fun _ _ _ h => h) (Or.inl ⟨by rfl, ?y9⟩) (by assumption) ?r9
        case y9 => ((intro w hSw; (try dsimp only at hSw); go_simp) <;> (try with_reducible rfl))
        (try go_simp)
        refine wpAnyH_take (i := 10) (v := ?v10) rfl (by kernel_rfl) (by kernel_rfl) (by kernel_rfl) (fun _ _ _ h => h) (Or.inl ⟨by rfl, ?y10⟩) (by assumption) ?r10
        case y10 => ((intro w hSw; (try dsimp only at hSw); go_simp) <;> (try with_reducible rfl))
        (try go_simp)
        refine wpAnyH_take (i := 11) (v := ?v11) rfl (by kernel_rfl) (by kernel_rfl) (by kernel_rfl) (fun _ _ _ h => h) (Or.inl ⟨by rfl, ?y11⟩) (by assumption) ?r11
        case y11 => ((intro w hSw; (try dsimp only at hSw); go_simp) <;> (try with_reducible rfl))
        (try go_simp)
        refine wpAnyH_take (i := 12) (v := ?v12) rfl (by kernel_rfl) (by kernel_rfl) (by kernel_rfl) (fun _ _ _ h => h) (Or.inl ⟨by rfl, ?y12⟩) (by assumption) ?r12
        case y12 => ((intro w hSw; (try dsimp only at hSw); go_simp) <;> (try with_reducible rfl))
        (try go_simp)
        refine wpAnyH_take (i := 13) (v := ?v13) rfl (by kernel_rfl) (by kernel_rfl) (by kernel_rfl) (fun _ _ _ h => h) (Or.inl ⟨by rfl, ?y13⟩) (by assumption) ?r13
        case y13 => ((intro w hSw; (try dsimp only at hSw); go_simp) <;> (try with_reducible rfl))
        (try go_simp)
        refine wpAnyH_take (i := 14) (v := ?v14) rfl (by kernel_rfl) (by kernel_rfl) (by kernel_rfl) (fun _ _ _ h => h) (Or.inl ⟨by rfl, ?y14⟩) (by assumption) ?r14
        case y14 => ((intro w hSw; (try dsimp only at hSw); go_simp) <;> (try with_reducible rfl))
        (try go_simp)
        refine wpAnyH_take (i := 15) (v := ?v15) rfl (by kernel_rfl) (by kernel_rfl) (by kernel_rfl) (fun _ _ _ h => h) (Or.inl ⟨by rfl, ?y15⟩) (by assumption) ?r15
        case y15 => ((intro w hSw; (try dsimp only at hSw); go_simp) <;> (try with_reducible rfl))
        (try go_simp)
        refine wpAnyH_take (i := 16) (v := ?v16) rfl (by kernel_rfl) (by kernel_rfl) (by kernel_rfl) (fun _ _ _ h => h) (Or.inl ⟨by rfl, ?y16⟩) (by assumption) ?r16
        case y16 => ((intro w hSw; (try dsimp only at hSw); go_simp) <;> (try with_reducible rfl))
        (try go_simp)
        refine wpAnyH_take (i := 17) (v := ?v17) rfl (by kernel_rfl) (by kernel_rfl) (by kernel_rfl) (fun _ _ _ h => h) (Or.inl ⟨by rfl, ?y17⟩) (by assumption) ?r17
        case y17 => ((intro w hSw; (try dsimp only at hSw); go_simp) <;> (try with_reducible rfl))
        (try go_simp)
        refine wpAnyH_take (i := 18) (v := ?v18) rfl (by kernel_rfl) (by kernel_rfl) (by kernel_rfl) (fun _ _ _ h => h) (Or.inl ⟨by rfl, ?y18⟩) (by assumption) ?r18
        case y18 => ((intro w hSw; (try dsimp only at hSw); go_simp) <;> (try with_reducible rfl))
        (try go_simp)
        refine wpAnyH_take (i := 19) (v := ?v19) rfl (by kernel_rfl) (by kernel_rfl) (by kernel_rfl) (fun _ _ _ h => h) (Or.inl ⟨by rfl, ?y19⟩) (by assumption) ?r19
        case y19 => ((intro w hSw; (try dsimp only at hSw); go_simp) <;> (try with_reducible rfl))
        (try go_simp)
        refine wpAnyH_take (i := 20) (v := ?v20) rfl (by kernel_rfl) (by kernel_rfl) (by kernel_rfl) (fun _ _ _ h => h) (Or.inl ⟨by rfl, ?y20⟩) (by assumption) ?r20
        case y20 => ((intro w hSw; (try dsimp only at hSw); go_simp) <;> (try with_reducible rfl))
        (try go_simp)
        refine wpAnyH_take (i := 21) (v := ?v21) rfl (by kernel_rfl) (by kernel_rfl) (by kernel_rfl) (fun _ _ _ h => h) (Or.inl ⟨by rfl, ?y21⟩) (by assumption) ?r21
        case y21 => ((intro w hSw; (try dsimp only at hSw); go_simp) <;> (try with_reducible rfl))
        (try go_simp)
        refine wpAnyH_take (i := 22) (v := ?v22) rfl (by kernel_rfl) (by kernel_rfl) (by kernel_rfl) (fun _ _ _ h => h) (Or.inl ⟨by rfl, ?y22⟩) (by assumption) ?r22
        case y22 => ((intro w hSw; (try dsimp only at hSw); go_simp) <;> (try with_reducible rfl))
        (try go_simp)
        refine wpAnyH_take (i := 23) (v := ?v23) rfl (by kernel_rfl) (by kernel_rfl) (by kernel_rfl) (fun _ _ _ h => h) (Or.inl ⟨by rfl, ?y23⟩) (by assumption) ?r23
        case y23 => ((intro w hSw; (try dsimp only at hSw); go_simp) <;> (try with_reducible rfl))
        (try go_simp)
        refine wpAnyH_take (i := 24) (v := ?v24) rfl (by kernel_rfl) (by kernel_rfl) (by kernel_rfl) (fun _ _ _ h => h) (Or.inl ⟨by rfl, ?y24⟩) (by assumption) ?r24
        case y24 => ((intro w hSw; (try dsimp only at hSw); go_simp) <;> (try with_reducible rfl))
        (try go_simp)
        refine wpAnyH_take (i := 25) (v := ?v25) rfl (by kernel_rfl) (by kernel_rfl) (by kernel_rfl) (fun _ _ _ h => h) (Or.inl ⟨by rfl, ?y25⟩) (by assumption) ?r25
        case y25 => ((intro w hSw; (try dsimp only at hSw); go_simp) <;> (try with_reducible rfl))
        (try go_simp)
        refine wpAnyH_take (i := 26) (v := ?v26) rfl (by kernel_rfl) (by kernel_rfl) (by kernel_rfl) (fun _ _ _ h => h) (Or.inl ⟨by rfl, ?y26⟩) (by assumption) ?r26
        case y26 => ((intro w hSw; (try dsimp only at hSw); go_simp) <;> (try with_reducible rfl))
        (try go_simp)
        refine wpAnyH_take (i := 27) (v := ?v27) rfl (by kernel_rfl) (by kernel_rfl) (by kernel_rfl) (fun _ _ _ h => h) (Or.inl ⟨by rfl, ?y27⟩) (by assumption) ?r27
        case y27 => ((intro w hSw; (try dsimp only at hSw); go_simp) <;> (try with_reducible rfl))
        (try go_simp)
        refine wpAnyH_take (i := 28) (v := ?v28) rfl (by kernel_rfl) (by kernel_rfl) (by kernel_rfl) (fun _ _ _ h => h) (Or.inl ⟨by rfl, ?y28⟩) (by assumption) ?r28
        case y28 => ((intro w hSw; (try dsimp only at hSw); go_simp) <;> (try with_reducible rfl))
        (try go_simp)
        refine wpAnyH_take (i := 29) (v := ?v29) rfl (by kernel_rfl) (by kernel_rfl) (by kernel_rfl) (fun _ _ _ h => h) (Or.inl ⟨by rfl, ?y29⟩) (by assumption) ?r29
        case y29 => ((intro w hSw; (try dsimp only at hSw); go_simp) <;> (try with_reducible rfl))
        (try go_simp)
        refine wpAnyH_take (i := 30) (v := ?v30) rfl (by kernel_rfl) (by kernel_rfl) (by kernel_rfl) (fun _ _ _ h => h) (Or.inl ⟨by rfl, ?y30⟩) (by assumption) ?r30
        case y30 => ((intro w hSw; (try dsimp only at hSw); go_simp) <;> (try with_reducible rfl))
        (try go_simp)
        refine wpAnyH_take (i := 31) (v := ?v31) rfl (by kernel_rfl) (by kernel_rfl) (by kernel_rfl) (fun _ _ _ h => h) (Or.inl ⟨by rfl, ?y31⟩) (by assumption) ?r31
        case y31 => ((intro w hSw; (try dsimp only at hSw); go_simp) <;> (try with_reducible rfl))
        (try go_simp)
        refine wpAnyH_take (i := 32) (v := ?v32) rfl (by kernel_rfl) (by kernel_rfl) (by kernel_rfl) (fun _ _ _ h => h) (Or.inl ⟨by rfl, ?y32⟩) (by assumption) ?r32
        case y32 => ((intro w hSw; (try dsimp only at hSw); go_simp) <;> (try with_reducible rfl))
        (try go_simp)
        refine wpAnyH_take (i := 33) (v := ?v33) rfl (by kernel_rfl) (by kernel_rfl) (by kernel_rfl) (fun _ _ _ h => h) (Or.inl ⟨by rfl, ?y33⟩) (by assumption) ?r33
        case y33 => ((intro w hSw; (try dsimp only at hSw); go_simp) <;> (try with_reducible rfl))
        (try go_simp)
        refine wpAnyH_take (i := 34) (v := ?v34) rfl (by kernel_rfl) (by kernel_rfl) (by kernel_rfl) (fun _ _ _ h => h) (Or.inl ⟨by rfl, ?y34⟩) (by assumption) ?r34
        case y34 => ((intro w hSw; (try dsimp only at hSw); go_simp) <;> (try with_reducible rfl))
        (try go_simp)
        refine wpAnyH_ready (rs := [35]) (by kernel_rfl) (by simp) ?_
        refine AllReadyH.cons rfl (fun K hK => ?_) AllReadyH.nil
        go_simp
        refine (HEX.out _ hbz).mono ?_
        rintro e w4 ⟨rfl, n, rfl⟩
        have hbz := Go.below_drewN hbz n
        refine hK.out _ _ ?_ (fun hHeld => ?_)
        · exact HX.out _ hbz
        clear hK K
        (try go_simp)
        refine wpAnyH_take (i := 36) (v := ?v36) rfl (by kernel_rfl) (by kernel_rfl) (by kernel_rfl) (fun _ _ _ h => h) (Or.inl ⟨by rfl, ?y36⟩) (by assumption) ?r36
        case y36 => ((intro w hSw; (try dsimp only at hSw); go_simp) <;> (try with_reducible rfl))
        (try go_simp)
        refine wpAnyH_take (i := 37) (v := ?v37) rfl (by kernel_rfl) (by kernel_rfl) (by kernel_rfl) (fun _ _ _ h => h) (Or.inl ⟨by rfl, ?y37⟩) (by assumption) ?r37
        case y37 => ((intro w hSw; (try dsimp only at hSw); go_simp) <;> (try with_reducible rfl))
        (try go_simp)
        refine wpAnyH_take (i := 38) (v := ?v38) rfl (by kernel_rfl) (by kernel_rfl) (by kernel_rfl) (fun _ _ _ h => h) (Or.inl ⟨by rfl, ?y38⟩) (by assumption) ?r38
        case y38 => ((intro w hSw; (try dsimp only at hSw); go_simp) <;> (try with_reducible rfl))
        (try go_simp)
        refine wpAnyH_take (i := 39) (v := ?v39) rfl (by kernel_rfl) (by kernel_rfl) (by kernel_rfl) (fun _ _ _ h => h) (Or.inl ⟨by rfl, ?y39⟩) (by assumption) ?r39
        case y39 => ((intro w hSw; (try dsimp only at hSw); go_simp) <;> (try with_reducible rfl))
        (try go_simp)
        refine wpAnyH_done (by kernel_rfl) ?_ _
        all_goals
          go_wp2_with fail
          go_meet
          exact ⟨rfl, Lib.hid hbz⟩
      case rest =>
        obtain ⟨rfl, hbz⟩ := hcut
        have HFB := Lib.hid (HBR.out.trans (hbz.out.mono HBR.out.size))
        clear hbz HX HLK HEX
        go_wp2
        go_roundw
        case rel => first | exact ⟨k + 1, by go_num, by omega, HFB⟩ | ((repeat apply Exists.intro); exact ⟨⟨k + 1, by go_num, by omega, HFB⟩, rfl⟩)
        case measure => simp [intOf]; omega
    · have hkz : (A.length : Int) ≤ (k : Int) := by omega
      go_wp2
      go_ret
      exact ⟨rfl, HBR.out⟩

end Go.Proofs.Ytjmggphnngffjaa
