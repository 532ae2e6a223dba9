/- Contract of decl.Read (printed by gen_decl12.py). -/
import Derived.Test.YthlofmnmacpogaaGreatDoorDf10

namespace Go.Proofs.YthlofmnmacpogaaGreatDoor
open Go.RowKit

theorem info_stmt : (Tryz.prog.info? 37).map (fun i => (i.zero, i.size, i.bytes)) = some (some (.agg #[.int .i64 0, .string ⟨#[]⟩, .int .i64 0, .int .i64 0, .int .i64 0, .slice none 0 0, .string ⟨#[]⟩, .string ⟨#[]⟩, .string ⟨#[]⟩, .int .i64 0, .slice none 0 0, .bool false]), 12, 160) := by kernel_rfl
theorem dread_results {W : World} {tmps : Array Value} {f : Nat} {v : Value} {e l c : Int} (hf : FtB W f e l c) (h2 : tmps[2]?.getD undef = v) (h3 : tmps[3]?.getD undef = .pointer (some ⟨f, 0, none⟩)) :
    (results Tryz.f8 tmps).run Tryz.prog W = .ok (.tuple #[v, .agg #[.int .i64 e, .int .i64 l, .int .i64 c]]) W := by
  obtain ⟨u0, u1, u2⟩ := hf.facts
  simp [results, Tryz.results8, go_sem, h2, h3, u0, u1, u2]

theorem StRow.mono {w : World} {B B2 : Nat} {v : Value} {l : List Sv} (h : StRow w B v l) (hB : B2 ≤ B) : StRow w B2 v l :=
  ⟨owns_mono h.row hB, fun e he => owns_mono (h.nm e he) hB, fun e he => owns_mono (h.it e he) hB⟩

set_option maxRecDepth 100000 in
set_option maxHeartbeats 4000000 in
theorem dread_bad (s : ByteArray) (w : World) (hm : MaxCell w) (hs : s.size ≤ 4294967200) (h0 : (tokRes s).er ≠ 0) :
    Calls Tryz.prog 8 #[.string s] w (DReadPost w (readD s)) := by
  have HZ : 0 < w.heap.size := by obtain ⟨m, hm⟩ := hm; exact World.block_lt_of_cell? w _ hm
  have HTK := Lib.hid (tokens_any s _ (hm.below ((Below.refl w.heap.size w).alloc (Nat.le_refl _) (.cells #[.int .i64 0, .int .i64 0, .int .i64 0] 28)) HZ) hs)
  have HF0 := Lib.hid (show FtB (w.alloc (.cells #[.int .i64 0, .int .i64 0, .int .i64 0] 28)) w.heap.size 0 0 0 from heap_alloc_new w _)
  have HB0 := Lib.hid ((Below.refl w.heap.size w).alloc (Nat.le_refl _) (.cells #[.int .i64 0, .int .i64 0, .int .i64 0] 28))
  obtain ⟨er, her⟩ : ∃ e, (tokRes s).er = e := ⟨_, rfl⟩
  obtain ⟨tl, htl⟩ : ∃ e, (tokRes s).line = e := ⟨_, rfl⟩
  obtain ⟨tc, htc⟩ : ∃ e, (tokRes s).col = e := ⟨_, rfl⟩
  rw [her] at h0
  have HER := Lib.hid her; have HTL := Lib.hid htl; have HTC := Lib.hid htc
  have HE0 := Lib.hid h0
  have HU : Hid (readD s = .bad er tl tc) := by unfold Hid readD; rw [HER.out, if_pos h0, HTL.out, HTC.out]
  have hne : (er != 0) = true := by simpa using h0
  clear h0 her htl htc hm
  go_enter Tryz.func8, Tryz.ntmps8
  go_wp2_with fail
  refine HTK.out.mono ?_
  rintro en w1 ⟨v, rfl, hown, hb1⟩
  rw [HER.out, HTL.out, HTC.out, faultV_no HE0.out]
  have hf1 := HF0.out.below hb1
  obtain ⟨q0, q1, q2⟩ := hf1.facts
  obtain ⟨z0, z1, z2⟩ := hf1.free
  have hlt1 := hf1.lt
  have HBB := Lib.hid (HB0.out.trans (hb1.mono HB0.out.size))
  have HE := Lib.hid ((hf1.stored er tl tc).alloc (.cells #[.int .i64 er, .int .i64 tl, .int .i64 tc] 28)).facts
  clear hown hb1 hf1
  go_wp2
  go_region
  go_wp2
  obtain ⟨e0, e1, e2⟩ := HE.out
  refine bodyPost_ret (v := .tuple #[.slice none 0 0, .agg #[.int .i64 er, .int .i64 tl, .int .i64 tc]]) (by simp [results, Tryz.results8, go_sem, e0, e1, e2]) rfl ?_
  rw [HU.out]
  exact ⟨rfl, ((below_fault HBB.out (Nat.le_refl _) _ _ _).alloc (by have := HBB.out.size; simp; omega) _).drew⟩

set_option maxRecDepth 100000 in
set_option maxHeartbeats 8000000 in
theorem dread_ok (s : ByteArray) (w : World) (hm : MaxCell w) (hs : s.size ≤ 4294967200) (h0 : (tokRes s).er = 0) :
    Calls Tryz.prog 8 #[.string s] w (DReadPost w (readD s)) := by
  have HZ : 0 < w.heap.size := by obtain ⟨m, hm⟩ := hm; exact World.block_lt_of_cell? w _ hm
  have HTK := Lib.hid (tokens_any s _ (hm.below ((Below.refl w.heap.size w).alloc (Nat.le_refl _) (.cells #[.int .i64 0, .int .i64 0, .int .i64 0] 28)) HZ) hs)
  have HF0 := Lib.hid (show FtB (w.alloc (.cells #[.int .i64 0, .int .i64 0, .int .i64 0] 28)) w.heap.size 0 0 0 from heap_alloc_new w _)
  have HB0 := Lib.hid ((Below.refl w.heap.size w).alloc (Nat.le_refl _) (.cells #[.int .i64 0, .int .i64 0, .int .i64 0] 28))
  have HS0 := Lib.hid (show (w.alloc (.cells #[.int .i64 0, .int .i64 0, .int .i64 0] 28)).heap.size = w.heap.size + 1 by simp)
  have HER := Lib.hid h0
  obtain ⟨X, hX, hXl⟩ := tokRes_endD s h0
  obtain ⟨T, hT⟩ : ∃ T, (tokRes s).T = T := ⟨_, rfl⟩
  have HT := Lib.hid hT
  have hTl : T.length ≤ 4097 := by rw [← hT, hX]; simp; omega
  have hEnd : ∀ a : Int, (tkAt T (a - 1)).kind ≠ 5 → 0 < a → a < T.length + 1 → a < T.length := by
    intro a h1 h2 h3
    refine Classical.byContradiction fun h4 => h1 ?_
    have e : a - 1 = ((X.length : Nat) : Int) := by rw [← hT, hX] at h3 h4; simp at h3 h4; omega
    have : T[X.length]? = some (endTk s) := by rw [← hT, hX]; simp
    rw [e, tkAt_some this]; rfl
  have HEND := Lib.hid hEnd
  have hTP : 0 < T.length := by rw [← hT, hX]; simp
  have HTP := Lib.hid hTP
  have HTL6 := Lib.hid hTl
  have HU : Hid (readD s = readS T T.length 0 []) := by unfold Hid readD; rw [if_neg (by omega), hT]
  clear hX hXl hEnd hT h0 hm hTl hTP
  go_enter Tryz.func8, Tryz.ntmps8
  go_wp2_with fail
  refine HTK.out.mono ?_
  rintro en w1 ⟨v, rfl, hown, hb1⟩
  rw [HT.out] at hown
  rw [HER.out, faultV_ok]
  obtain ⟨g, cap, hv, hg, hgs⟩ := owns_shape hown HTP.out
  rw [HS0.out] at hg
  subst hv
  have hf1 := (HF0.out.below hb1).alloc (.cells #[.int .i64 0, .int .i64 0, .int .i64 0] 28)
  have hal := (Below.refl w1.heap.size w1).alloc (Nat.le_refl _) (.cells #[.int .i64 0, .int .i64 0, .int .i64 0] 28)
  have hs1 := hb1.size
  rw [HS0.out] at hs1
  obtain ⟨W1, hW1⟩ : ∃ W, W = w1.alloc (.cells #[.int .i64 0, .int .i64 0, .int .i64 0] 28) := ⟨_, rfl⟩
  have hsW : W1.heap.size = w1.heap.size + 1 := by rw [hW1]; simp
  have HOW := Lib.hid (show W1.ownsRow _ _ _ _ _ _ by rw [hW1]; exact hown.alloc (.cells #[.int .i64 0, .int .i64 0, .int .i64 0] 28))
  have HTI := Lib.hid (tkIn_ownsD (B := W1.heap.size) HOW.out (Nat.le_refl _) (by have := HTL6.out; omega))
  have HBB := Lib.hid (show Below w.heap.size w W1 by rw [hW1]; exact (HB0.out.trans (hb1.mono HB0.out.size)).trans (hal.mono (Nat.le_trans HB0.out.size hb1.size)))
  have F1 := Lib.hid (show FtB W1 w.heap.size 0 0 0 by rw [hW1]; exact hf1)
  have HW1 := Lib.hid hW1
  have HSW := Lib.hid hsW
  clear hown hb1 hf1 hal hsW
  go_wp2
  rw [← HW1.out]
  clear hW1
  go_loopw [6, 7] (fun v6 v7 wr => ∃ (k i : Nat) (l : List Sv), v7 = .int .i64 i ∧ Hid (Below W1.heap.size W1 wr ∧ StRow wr W1.heap.size v6 l ∧ readS T T.length 0 [] = readS T k i (l.map (·.1)) ∧ i < T.length ∧ T.length ≤ i + k ∧ l.length ≤ i)) (fun _ v7 _ => T.length - (intOf v7).toNat)
  case atStart => exact ⟨T.length, 0, [], rfl, Below.refl _ _, StRow.nil _ _, rfl, HTP.out, by omega, Nat.le_refl _⟩
  case round =>
    obtain ⟨k, i, l, rfl, HALL⟩ := hrel
    have HB := Lib.hid HALL.out.1
    have HR := Lib.hid HALL.out.2.1
    have HQ := Lib.hid HALL.out.2.2.1
    have hiT : i < T.length := HALL.out.2.2.2.1
    have HK := Lib.hid HALL.out.2.2.2.2
    clear HALL
    obtain ⟨y, hy⟩ : ∃ y, T[i]? = some y := ⟨_, List.getElem?_eq_getElem hiT⟩
    have HY := Lib.hid (show tkAt T i = y from tkAt_some hy)
    obtain ⟨g', off, cap', e1, -, hgw, d0, -, -, -, -⟩ := (HTI.out.below HB.out).at hy
    obtain ⟨⟨rfl, rfl⟩, rfl⟩ : (g = g' ∧ off = 0) ∧ cap = cap' := by simpa [eq_comm] using e1
    clear hy
    rw [Nat.zero_add] at d0
    have hfr := F1.out.below (HB.out.mono (by have := F1.out.lt; omega) |> fun h => h)
    have F2 := Lib.hid hfr
    obtain ⟨q0, q1, q2⟩ := hfr.facts
    obtain ⟨z0, z1, z2⟩ := hfr.free
    have hltF := hfr.lt
    have hi0 : (0 : Int) ≤ (i : Int) := by omega
    have hi1 : (i : Int) < (T.length : Int) := by omega
    clear hfr
    by_cases h5 : y.kind = 5
    · have h5b : (y.kind != 5) = false := by simp [h5]
      have HE : Hid (readS T T.length 0 [] = .ok (l.map (·.1))) := by
        unfold Hid; rw [HQ.out]
        cases k with
        | zero => rfl
        | succ k => rw [readS, if_pos (by rw [HY.out]; exact h5)]
      clear h5
      have HF3 := Lib.hid (F2.out.stored 0 0 0)
      have HR3 := Lib.hid ((HR.out.mono HBB.out.size).fault F2.out 0 0 0)
      have HB3 := Lib.hid (below_fault (HBB.out.trans (HB.out.mono HBB.out.size)) (Nat.le_refl _) (.int .i64 0) (.int .i64 0) (.int .i64 0))
      go_wp2
      refine bodyPost_ret (dread_results HF3.out rfl rfl) rfl ?_
      rw [HU.out, HE.out]
      exact ⟨l, _, rfl, rfl, HR3.out, HB3.out⟩
    · have h5b : (y.kind != 5) = true := by simpa using h5
      have HN5 := Lib.hid h5
      clear h5
      cases hp : oneD T i with
      | bad e l0 c =>
        have HE : Hid (readS T T.length 0 [] = .bad e l0 c) := by
          unfold Hid; rw [HQ.out]
          obtain ⟨q, rfl⟩ : ∃ q, k = q + 1 := ⟨k - 1, by have := HK.out.1; omega⟩
          rw [readS, if_neg (by rw [HY.out]; exact HN5.out), hp]
        have hne := oneD_bad hp
        have hneb : (e != 0) = true := by simpa using hne
        have HP := Lib.hid hp
        clear hp hne
        go_wp2_with fail
        refine (done_any ((HTI.out.below HB.out).mono HB.out.size) i).mono ?_
        rw [HP.out]
        rintro en w2 ⟨rfl, hb2⟩
        rw [show stV noSt (.slice none 0 0) (.slice none 0 0) = .agg #[.int .i64 0, .string ⟨#[]⟩, .int .i64 0, .int .i64 0, .int .i64 0, .slice none 0 0, .string ⟨#[]⟩, .string ⟨#[]⟩, .string ⟨#[]⟩, .int .i64 0, .slice none 0 0, .bool false] from rfl]
        have F3 := Lib.hid ((((F2.out.below hb2).stored e l0 c).alloc (.cells #[.int .i64 0, .string ⟨#[]⟩, .int .i64 0, .int .i64 0, .int .i64 0, .slice none 0 0, .string ⟨#[]⟩, .string ⟨#[]⟩, .string ⟨#[]⟩, .int .i64 0, .slice none 0 0, .bool false] 37)).alloc (.cells #[.int .i64 e, .int .i64 l0, .int .i64 c] 28)).drew
        have BL := Lib.hid ((((below_fault ((HBB.out.trans (HB.out.mono HBB.out.size)).trans (hb2.mono (Nat.le_trans HBB.out.size HB.out.size))) (Nat.le_refl _) (.int .i64 e) (.int .i64 l0) (.int .i64 c)).alloc (by have := hb2.size; have := HB.out.size; have := HBB.out.size; simp; omega) (.cells #[.int .i64 0, .string ⟨#[]⟩, .int .i64 0, .int .i64 0, .int .i64 0, .slice none 0 0, .string ⟨#[]⟩, .string ⟨#[]⟩, .string ⟨#[]⟩, .int .i64 0, .slice none 0 0, .bool false] 37)).alloc (by have := hb2.size; have := HB.out.size; have := HBB.out.size; simp; omega) (.cells #[.int .i64 e, .int .i64 l0, .int .i64 c] 28)).drew)
        have hf2 := F2.out.below hb2
        clear q0 q1 q2 z0 z1 z2 hltF
        obtain ⟨q0, q1, q2⟩ := hf2.facts
        obtain ⟨z0, z1, z2⟩ := hf2.free
        have hltF := hf2.lt
        clear hf2 hb2
        go_wp2
        go_region
        go_wp2
        refine bodyPost_ret (dread_results F3.out rfl rfl) rfl ?_
        rw [HU.out, HE.out]
        exact ⟨rfl, BL.out⟩
      | ok x a =>
        obtain ⟨ha0, ha1, ha2, ha3⟩ := oneD_ok hp
        have haT := HEND.out a ha3 (by omega) ha2
        obtain ⟨ka, hka⟩ : ∃ ka : Nat, a = ka := ⟨a.toNat, by omega⟩
        subst hka
        have HE : Hid (∃ q, k = q + 1 ∧ readS T T.length 0 [] = readS T q ka (l.map (·.1) ++ [x])) := by
          unfold Hid
          obtain ⟨q, rfl⟩ : ∃ q, k = q + 1 := ⟨k - 1, by have := HK.out.1; omega⟩
          refine ⟨q, rfl, ?_⟩
          rw [HQ.out, readS, if_neg (by rw [HY.out]; exact HN5.out), hp]
        have HKA := Lib.hid (show i + 2 ≤ ka ∧ ka < T.length by omega)
        have HP := Lib.hid hp
        clear hp ha0 ha1 ha2 ha3 haT
        go_wp2_with fail
        refine (done_any ((HTI.out.below HB.out).mono HB.out.size) i).mono ?_
        rw [HP.out]
        rintro en w2 ⟨nv, iv, rfl, hn, hi, hb2⟩
        obtain ⟨ad5, cap5, hv5⟩ := owns_len hn
        obtain ⟨n5, hn5⟩ : ∃ n, x.names.length = n := ⟨_, rfl⟩
        rw [hn5] at hv5
        obtain ⟨ad6, cap6, hv6⟩ := owns_len hi
        obtain ⟨n6, hn6⟩ : ∃ n, x.ifs.length = n := ⟨_, rfl⟩
        rw [hn6] at hv6
        clear hn5 hn6
        subst hv5 hv6
        unfold stV
        have HB2 := Lib.hid (((hb2.mono HB.out.size).alloc (by have := hb2.size; have := HB.out.size; omega) (.cells #[.int .i64 x.kind, .string x.name, .int .i64 x.line, .int .i64 x.col, .int .i64 x.init, (.slice ad5 n5 cap5), .string x.role, .string x.stage, .string x.event, .int .i64 x.times, (.slice ad6 n6 cap6), .bool x.final] 37)).alloc (by have := hb2.size; have := HB.out.size; simp; omega) (.cells #[.int .i64 0, .int .i64 0, .int .i64 0] 28))
        have HBr := Lib.hid ((hb2.alloc hb2.size (.cells #[.int .i64 x.kind, .string x.name, .int .i64 x.line, .int .i64 x.col, .int .i64 x.init, (.slice ad5 n5 cap5), .string x.role, .string x.stage, .string x.event, .int .i64 x.times, (.slice ad6 n6 cap6), .bool x.final] 37)).alloc (by have := hb2.size; simp; omega) (.cells #[.int .i64 0, .int .i64 0, .int .i64 0] 28))
        have HN3 := Lib.hid (owns_mono ((hn.alloc (.cells #[.int .i64 x.kind, .string x.name, .int .i64 x.line, .int .i64 x.col, .int .i64 x.init, (.slice ad5 n5 cap5), .string x.role, .string x.stage, .string x.event, .int .i64 x.times, (.slice ad6 n6 cap6), .bool x.final] 37)).alloc (.cells #[.int .i64 0, .int .i64 0, .int .i64 0] 28)) HB.out.size)
        have HI3 := Lib.hid (owns_mono ((hi.alloc (.cells #[.int .i64 x.kind, .string x.name, .int .i64 x.line, .int .i64 x.col, .int .i64 x.init, (.slice ad5 n5 cap5), .string x.role, .string x.stage, .string x.event, .int .i64 x.times, (.slice ad6 n6 cap6), .bool x.final] 37)).alloc (.cells #[.int .i64 0, .int .i64 0, .int .i64 0] 28)) HB.out.size)
        have HR3 := Lib.hid (HR.out.below HBr.out)
        have hlen : l.length ≤ 4097 := by have := HK.out.2; have := HTL6.out; omega
        have hszb : W1.heap.size ≤ w2.heap.size := Nat.le_trans HB.out.size hb2.size
        clear hn hi hb2 q0 q1 q2 z0 z1 z2
        go_wp2_with (at_builtin; refine app1 ((w2.alloc (.cells #[.int .i64 x.kind, .string x.name, .int .i64 x.line, .int .i64 x.col, .int .i64 x.init, (.slice ad5 n5 cap5), .string x.role, .string x.stage, .string x.event, .int .i64 x.times, (.slice ad6 n6 cap6), .bool x.final] 37)).alloc (.cells #[.int .i64 0, .int .i64 0, .int .i64 0] 28)) #[.int .i64 x.kind, .string x.name, .int .i64 x.line, .int .i64 x.col, .int .i64 x.init, (.slice ad5 n5 cap5), .string x.role, .string x.stage, .string x.event, .int .i64 x.times, (.slice ad6 n6 cap6), .bool x.final] rfl _ _ 23 rfl W1.heap.size 37 _ 12 160 Tryz.underlying23 info_stmt rfl (by decide) (by decide) _ _ _ rfl (by exact HR3.out.row) rfl (by simp) rfl (by simp [Value.oneCell']) (by omega) (by simp; omega) ?_; intro v' w3 hown' hg' hb')
        obtain ⟨q, hq, hE⟩ := HE.out
        have HR4 := Lib.hid (HR3.out.put (x := (x, (.slice ad5 n5 cap5), (.slice ad6 n6 cap6))) hg' hown' HN3.out HI3.out)
        have HB4 := Lib.hid ((HB.out.trans HB2.out).trans hb')
        have HQ4 := Lib.hid hE
        have hq1 := hq
        clear hown' hg' hb' hE hq
        go_wp2
        go_roundw
        case rel => exact ⟨q, ka, l ++ [(x, (.slice ad5 n5 cap5), (.slice ad6 n6 cap6))], rfl, HB4.out, HR4.out, by rw [HQ4.out, List.map_append]; rfl, HKA.out.2, by have := HK.out.1; have := HKA.out.1; omega, by have := HK.out.2; have := HKA.out.1; rw [List.length_append, List.length_singleton]; omega⟩
        case measure =>
          have e1 : (intOf (.int .i64 (ka : Int))).toNat = ka := rfl
          have e2 : (intOf (.int .i64 (i : Int))).toNat = i := rfl
          have := HKA.out.1
          first
          | (rw [e1, e2]; omega)
          | (simp [intOf]; omega)

end Go.Proofs.YthlofmnmacpogaaGreatDoor
