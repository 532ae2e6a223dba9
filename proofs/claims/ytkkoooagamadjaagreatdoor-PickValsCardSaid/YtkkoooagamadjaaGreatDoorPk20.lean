/- warderref24: own. warderref24: in. -/
import Derived.Test.YtkkoooagamadjaaGreatDoorPk19

namespace Go.Proofs.YtkkoooagamadjaaGreatDoor
open Go.RowKit Go.Shelf

set_option maxRecDepth 100000 in
set_option maxHeartbeats 4000000 in
theorem rown_any {w : World} {v1 v2 cv : Value} {cl : List (Int × Int)} {gl come : List Int} {a r : Int} (hz : ZoneIn w v1 v2 cl gl) (hcv : RdK w 1 cv come.length (ints come)) (k f u : Nat) (hk : k ≤ cl.length) (hf : f ≤ gl.length) (hu : u ≤ gl.length)
    (hcl : cl.length ≤ 1000) (hgl : gl.length ≤ 1000) (hco : come.length ≤ 16) (hr1 : 1 ≤ r) (hr2 : r ≤ 1000) (hcap : ∀ ad n c, v1 = .slice ad n c → n ≤ c) :
    Calls Tryz.prog 69 #[.agg #[v1, v2], .int .i64 a, .int .i64 k, .int .i64 r, .int .i64 f, cv, .int .i64 u] w fun e w' => ∃ c1 c2, e = .returned (.agg #[c1, c2]) ∧ ZoneAt w' w.heap.size c1 c2 (ownC cl a k) (repG (clipL gl (r - 1)) f u come) ∧ Below w.heap.size w w' := by
  obtain ⟨ad1, k1, e1⟩ := hz.1.len
  obtain ⟨ad2, k2, e2⟩ := hz.2.len
  obtain ⟨ad3, k3, e3⟩ := hcv.len
  have hcap1 := hcap _ _ _ e1
  obtain ⟨n, hn⟩ : ∃ n, cl.length = n := ⟨_, rfl⟩
  obtain ⟨m, hm⟩ : ∃ m, gl.length = m := ⟨_, rfl⟩
  obtain ⟨p, hp⟩ : ∃ p, come.length = p := ⟨_, rfl⟩
  have hz1 := hz.1
  rw [hn] at e1 hcap1 hk hcl hz1; rw [hm] at e2 hf hu hgl; rw [hp] at e3 hco
  subst e1; subst e2; subst e3
  have HZ := Lib.hid hz; have HC := Lib.hid hcv
  have HN := Lib.hid hn; have HM := Lib.hid hm; have HP := Lib.hid hp; have HZ1 := Lib.hid hz1
  obtain ⟨W1, hW1⟩ : ∃ W1, w.alloc (.cells #[.slice ad1 n k1, .slice ad2 m k2] 28) = W1 := ⟨_, rfl⟩
  have hs1 : W1.heap.size = w.heap.size + 1 := by rw [← hW1]; simp
  obtain ⟨W2, hW2⟩ : ∃ W2, W1.alloc (.cells #[.slice none 0 0, .slice none 0 0] 28) = W2 := ⟨_, rfl⟩
  have hs2 : W2.heap.size = w.heap.size + 2 := by rw [← hW2]; simp [hs1]
  obtain ⟨W3, hW3⟩ : ∃ W3, W2.alloc (.cells #[.slice none 0 0, .slice none 0 0] 28) = W3 := ⟨_, rfl⟩
  have hs3 : W3.heap.size = w.heap.size + 3 := by rw [← hW3]; simp [hs2]
  have hb3 : Below w.heap.size w W3 := by
    rw [← hW3, ← hW2, ← hW1]; exact (((Below.refl _ w).alloc (Nat.le_refl _) _).alloc (by simp) _).alloc (by simp; omega) _
  have h0 : OS w (.slice ad1 n k1) (.slice ad2 m k2) (.slice none 0 0) (.slice none 0 0) [] [] W3 := by
    refine ⟨?_, ?_, ?_, ⟨World.ownsRow_nil _ _ _ _, World.ownsRow_nil _ _ _ _⟩, hb3⟩
    · rw [← hW3, ← hW2, ← hW1]; exact ((Blk.new _ _ _).alloc _).alloc _
    · rw [← hW3, ← hW2, ← hs1]; exact (Blk.new _ _ _).alloc _
    · rw [← hW3, ← hs2]; exact Blk.new _ _ _
  have H0 := Lib.hid h0
  obtain ⟨c0, c1, c2, c3, c4, c5, c6⟩ := h0.facts
  have hwr : IntKind.i64.wrap (r - 1) = r - 1 := by rw [IntKind.wrap_i64]; omega
  have hk0 : (0 : Int) ≤ (k : Int) := by omega
  have hkn : (k : Int) ≤ (n : Int) := by omega
  have hkc : (k : Int) ≤ (k1 : Int) := by omega
  have hdr : W3.drew.heap.size = W3.heap.size := rfl
  clear hz hcv hz1 hcap hb3 h0 hn hm hp
  go_enter Tryz.func69, Tryz.ntmps69
  go_upto_region 2 with fail
  go_cut [7, 14, 15] (fun s7 s14 s15 wx => s7 = .pointer (some ⟨w.heap.size, 0, none⟩) ∧ s14 = .pointer (some ⟨w.heap.size + 1, 0, none⟩) ∧ s15 = .pointer (some ⟨w.heap.size + 2, 0, none⟩) ∧ ∃ (x1 : Option Addr) (y1 : Nat), Hid (OS w (.slice ad1 n k1) (.slice ad2 m k2) (.slice x1 k y1) (.slice none 0 0) (cl.take k) [] wx))
  case first =>
    have hzn := HZ1.out.below H0.out.low
    have htk := hzn.take hk
    rw [cellsP_take] at htk
    have HTK := Lib.hid htk
    clear hzn htk
    go_region_law (first
      | (refine step_appX (w := W3.drew) (by rfl) (.tmp 18) (.tmp 22) 25 (by rfl) 47 (.agg #[.int .i64 0, .int .i64 0]) 2 16 w.heap.size Tryz.underlying25 info_class rfl (by decide) (by decide) (.slice none 0 0) 0 [] (by simp [Act.eval, Act.put]) (World.ownsRow_nil _ _ _ _) k (cellsP (cl.take k)) ⟨_, by simp [Act.eval, Act.put], HTK.out⟩ (cellsP_one _) (by omega) (by omega) ?_
         intro v' w5 ho5 hg5
         rw [Nat.zero_add] at ho5
         have hos : OS w _ _ _ _ _ _ _ := OS.appC (ys := cl.take k) (c1' := v') (W := W3.drew) (H0.out.below (Below.refl _ _).drew) (by rw [List.length_take, HN.out, Nat.min_eq_left hk]; simpa [cellsP] using ho5) hg5
         obtain ⟨q0, q1, q2⟩ := OS.cellC (W := W3.drew) (H0.out.below (Below.refl _ _).drew) hg5
         obtain ⟨x1, y1, hv'⟩ := owns_len ho5
         subst hv'
         rw [List.nil_append] at hos
         have HOS := Lib.hid hos
         clear hos ho5 hg5))
    all_goals
      go_wp2_with fail
      go_meet
      exact ⟨rfl, rfl, rfl, _, _, HOS.out⟩
  case rest =>
    clear H0 c0 c1 c2 c3 c4 c5 c6 hdr
    obtain ⟨rfl, rfl, rfl, x1, y1, HS⟩ := hcut
    obtain ⟨c0, c1, c2, c3, c4, c5, c6⟩ := HS.out.facts
    have HPT := Lib.hid (put_any 0 a true wc.drew (by decide) (by decide))
    rw [show putZ 0 a true = bitZ a from rfl] at HPT
    obtain ⟨bb, hbb⟩ : ∃ bb, bitZ a = bb := ⟨_, rfl⟩
    have HBB := Lib.hid hbb
    rw [hbb] at HPT
    clear hbb
    go_upto_region 3 with fail
    go_cut [7, 14, 15] (fun s7 s14 s15 wx => s7 = .pointer (some ⟨w.heap.size, 0, none⟩) ∧ s14 = .pointer (some ⟨w.heap.size + 1, 0, none⟩) ∧ s15 = .pointer (some ⟨w.heap.size + 2, 0, none⟩) ∧ ∃ (x1 : Option Addr) (y1 : Nat), Hid (OS w (.slice ad1 n k1) (.slice ad2 m k2) (.slice x1 (k + 1) y1) (.slice none 0 0) (cl.take k ++ [(bb, -1)]) [] wx))
    case first =>
      go_region_law (first
        | (go_simp; go_at_call 31; (with_reducible refine HPT.out.mono ?_)
           rintro e wk ⟨rfl, hbk⟩
           have hos := OS.below (W := wc.drew) (HS.out.below (Below.refl _ _).drew) hbk
           obtain ⟨d0, d1, d2, d3, d4, d5, d6⟩ := hos.facts
           have hba : Below wk.heap.size wk (wk.alloc (.cells #[.int .i64 bb, .int .i64 (-1)] 47)) := (Below.refl _ _).alloc (Nat.le_refl _) _
           have hos2 := hos.below hba
           obtain ⟨e0, e1, e2, e3, e4, e5, e6⟩ := hos2.facts
           have HOA := Lib.hid hos2
           have HRD : Hid (RdK (wk.alloc (.cells #[.int .i64 bb, .int .i64 (-1)] 47)) 2 (.slice (some ⟨wk.heap.size, 0, none⟩) 1 1) 1 (cellsP [(bb, -1)])) := by
             refine ⟨_, _, rfl, rfl, .inr ⟨wk.heap.size, 0, rfl, by simp, fun t x hx => ?_⟩⟩
             rw [World.cell?_alloc_at _ _ _ _ (by simp)]
             simpa [cellsP] using hx
           clear hos hos2 hba hbk)
        | (have hzn1 := HOA.out.zn.1
           rw [List.length_take, HN.out, Nat.min_eq_left hk] at hzn1
           refine step_appX (w := wk.alloc (.cells #[.int .i64 bb, .int .i64 (-1)] 47)) (by rfl) (.tmp 26) (.tmp 30) 25 (by rfl) 47 (.agg #[.int .i64 0, .int .i64 0]) 2 16 w.heap.size Tryz.underlying25 info_class rfl (by decide) (by decide) (.slice x1 k y1) k (cellsP (cl.take k)) (by simp [Act.eval]) hzn1 1 (cellsP [(bb, -1)]) ⟨_, by simp [Act.eval], HRD.out⟩ (cellsP_one _) (by omega) HOA.out.low.size ?_
           intro v' w5 ho5 hg5
           have hos : OS w _ _ _ _ _ _ _ := OS.appC (ys := [(bb, -1)]) (c1' := v') HOA.out (by rw [List.length_take, HN.out, Nat.min_eq_left hk]; exact ho5) hg5
           obtain ⟨q0, q1, q2⟩ := HOA.out.cellC hg5
           obtain ⟨x1', y1', hv'⟩ := owns_len ho5
           subst hv'
           have HOS := Lib.hid hos
           clear hos ho5 hg5 hzn1))
      all_goals
        go_wp2_with fail
        go_meet
        exact ⟨rfl, rfl, rfl, _, _, HOS.out⟩
    case rest =>
      clear HS c0 c1 c2 c3 c4 c5 c6 HPT
      obtain ⟨rfl, rfl, rfl, x2, y2, HS⟩ := hcut
      obtain ⟨c0, c1, c2, c3, c4, c5, c6⟩ := HS.out.facts
      have hzn1 := HS.out.zn.1
      have htl : (cl.take k ++ [(bb, -1)]).length = k + 1 := by rw [List.length_append, List.length_take, HN.out, Nat.min_eq_left hk]; rfl
      rw [htl] at hzn1
      have HRO := Lib.hid (owns_drew hzn1)
      have HLE : Hid ((cl.take k ++ [(bb, -1)]).length = k + 1 ∧ (cl.drop k).length = n - k) := ⟨htl, by rw [List.length_drop, HN.out]⟩
      have HFE : Hid (cl.take k ++ [(bb, -1)] ++ cl.drop k = ownC cl a k) := by unfold Hid ownC; rw [HBB.out]
      clear hzn1 htl
      go_upto_region 4 with fail
      go_cut [7, 14, 15] (fun s7 s14 s15 wx => s7 = .pointer (some ⟨w.heap.size, 0, none⟩) ∧ s14 = .pointer (some ⟨w.heap.size + 1, 0, none⟩) ∧ s15 = .pointer (some ⟨w.heap.size + 2, 0, none⟩) ∧ ∃ (x1 : Option Addr) (y1 : Nat), Hid (OS w (.slice ad1 n k1) (.slice ad2 m k2) (.slice x1 (n + 1) y1) (.slice none 0 0) (ownC cl a k) [] wx))
      case first =>
        by_cases h0 : n = 0
        · obtain rfl : k = 0 := by omega
          obtain rfl : n = 0 := h0
          have HZR : ∀ (X : Option Addr) (c : Nat), Hid (RdK wc.drew 2 (.slice X 0 c) 0 (cellsP (cl.drop 0))) := by
            intro X c
            unfold Hid
            rw [show cl.drop 0 = [] from List.drop_eq_nil_of_le (by rw [HN.out]; omega)]
            exact RdK.zero _ _ _ _
          go_region_law (first
            | (refine step_appX (w := wc.drew) (by rfl) (.tmp 34) (.tmp 38) 25 (by rfl) 47 (.agg #[.int .i64 0, .int .i64 0]) 2 16 w.heap.size Tryz.underlying25 info_class rfl (by decide) (by decide) (.slice x2 1 y2) 1 (cellsP (cl.take 0 ++ [(bb, -1)])) (by simp [Act.eval, Act.put]) HRO.out 0 (cellsP (cl.drop 0)) ⟨_, rfl, (HZR _ _).out⟩ (cellsP_one _) (by omega) HS.out.low.size ?_
               intro v' w5 ho5 hg5
               have hos : OS w _ _ _ _ _ _ _ := OS.appC (ys := (cl.drop 0)) (c1' := v') (W := wc.drew) (HS.out.below (Below.refl _ _).drew) (by rw [HLE.out.1, HLE.out.2]; exact ho5) hg5
               obtain ⟨q0, q1, q2⟩ := OS.cellC (W := wc.drew) (HS.out.below (Below.refl _ _).drew) hg5
               have ho6 := ho5
               rw [show 1 + 0 = 0 + 1 by omega] at ho6
               obtain ⟨x1', y1', hv'⟩ := owns_len ho6
               subst hv'
               rw [HFE.out] at hos
               have HOS := Lib.hid hos
               clear hos ho5 hg5 ho6))
          all_goals
            go_wp2_with fail
            go_meet
            exact ⟨rfl, rfl, rfl, _, _, HOS.out⟩
        · obtain ⟨b, off, rfl, hbl, hcc⟩ := HZ1.out.at (by omega)
          have hdp := (HZ1.out.below (HS.out.low.drew)).drop (i := k) (by omega) (k1 - k)
          rw [cellsP_drop] at hdp
          have HDP := Lib.hid hdp
          clear hdp hcc
          by_cases hci : k1 = k
          · have hci' := hci.symm
            subst hci'
            have hnk' : k = n := by omega
            subst hnk'
            have HZR : ∀ (X : Option Addr) (c : Nat), Hid (RdK wc.drew 2 (.slice X 0 c) 0 (cellsP (cl.drop k))) := by
              intro X c
              unfold Hid
              rw [show cl.drop k = [] from List.drop_eq_nil_of_le (by rw [HN.out]; omega)]
              exact RdK.zero _ _ _ _
            rw [Nat.sub_self] at HLE
            go_region_law (first
              | (refine step_appX (w := wc.drew) (by rfl) (.tmp 34) (.tmp 38) 25 (by rfl) 47 (.agg #[.int .i64 0, .int .i64 0]) 2 16 w.heap.size Tryz.underlying25 info_class rfl (by decide) (by decide) (.slice x2 (k + 1) y2) (k + 1) (cellsP (cl.take k ++ [(bb, -1)])) (by simp [Act.eval, Act.put]) HRO.out 0 (cellsP (cl.drop k)) ⟨_, rfl, (HZR _ _).out⟩ (cellsP_one _) (by omega) HS.out.low.size ?_
                 intro v' w5 ho5 hg5
                 have hos : OS w _ _ _ _ _ _ _ := OS.appC (ys := (cl.drop k)) (c1' := v') (W := wc.drew) (HS.out.below (Below.refl _ _).drew) (by rw [HLE.out.1, HLE.out.2]; exact ho5) hg5
                 obtain ⟨q0, q1, q2⟩ := OS.cellC (W := wc.drew) (HS.out.below (Below.refl _ _).drew) hg5
                 have ho6 := ho5
                 rw [show (k + 1) + 0 = k + 1 by omega] at ho6
                 obtain ⟨x1', y1', hv'⟩ := owns_len ho6
                 subst hv'
                 rw [HFE.out] at hos
                 have HOS := Lib.hid hos
                 clear hos ho5 hg5 ho6))
            all_goals
              go_wp2_with fail
              go_meet
              exact ⟨rfl, rfl, rfl, _, _, HOS.out⟩
          · 
            go_region_law (first
              | (refine step_appX (w := wc.drew) (by rfl) (.tmp 34) (.tmp 38) 25 (by rfl) 47 (.agg #[.int .i64 0, .int .i64 0]) 2 16 w.heap.size Tryz.underlying25 info_class rfl (by decide) (by decide) (.slice x2 (k + 1) y2) (k + 1) (cellsP (cl.take k ++ [(bb, -1)])) (by simp [Act.eval, Act.put]) HRO.out (n - k) (cellsP (cl.drop k)) ⟨_, by simp [Act.eval, Act.put], HDP.out⟩ (cellsP_one _) (by omega) HS.out.low.size ?_
                 intro v' w5 ho5 hg5
                 have hos : OS w _ _ _ _ _ _ _ := OS.appC (ys := (cl.drop k)) (c1' := v') (W := wc.drew) (HS.out.below (Below.refl _ _).drew) (by rw [HLE.out.1, HLE.out.2]; exact ho5) hg5
                 obtain ⟨q0, q1, q2⟩ := OS.cellC (W := wc.drew) (HS.out.below (Below.refl _ _).drew) hg5
                 have ho6 := ho5
                 rw [show (k + 1) + (n - k) = n + 1 by omega] at ho6
                 obtain ⟨x1', y1', hv'⟩ := owns_len ho6
                 subst hv'
                 rw [HFE.out] at hos
                 have HOS := Lib.hid hos
                 clear hos ho5 hg5 ho6))
            all_goals
              go_wp2_with fail
              go_meet
              exact ⟨rfl, rfl, rfl, _, _, HOS.out⟩
      case rest =>
        clear HS c0 c1 c2 c3 c4 c5 c6 HRO HLE HFE
        obtain ⟨rfl, rfl, rfl, x3, y3, HS⟩ := hcut
        obtain ⟨c0, c1, c2, c3, c4, c5, c6⟩ := HS.out.facts
        have hz2 := (HZ.out.below HS.out.low).2
        have HCL := Lib.hid (rclipped_any (r - 1) hz2 (by rw [HM.out]; omega))
        rw [HM.out] at HCL
        obtain ⟨G, hG⟩ : ∃ G, clipL gl (r - 1) = G := ⟨_, rfl⟩
        have HG := Lib.hid hG
        have hGl : G.length = m := by rw [← hG, clipL_len, HM.out]
        have HGL := Lib.hid hGl
        rw [hG] at HCL
        clear hz2 hG hGl
        go_wp2_with fail
        refine HCL.out.mono ?_
        rintro e w6 ⟨gv, rfl, ho6, hb6⟩
        have hos6 := HS.out.below hb6
        have hrd6 := RdB.of_owns (box := w.heap.size + 2) ho6 hos6.out (by decide)
        have hog6 : OG w (.slice ad1 n k1) (.slice ad2 m k2) (.slice x3 (n + 1) y3) (.slice none 0 0) (ownC cl a k) [] w6.heap.size gv m G w6 := ⟨hos6, World.ownsRow_nil _ _ _ _, hrd6, Nat.le_refl _, hos6.low.size⟩
        obtain ⟨gad, gcap, hgv, _, hgc, hgor⟩ := hrd6
        subst hgv
        have HO6 := Lib.hid hog6
        have HGO := Lib.hid hgor
        obtain ⟨d0, d1, d2, d3, d4, d5, d6⟩ := hog6.os.facts
        obtain ⟨B, hB⟩ : ∃ B, w6.heap.size = B := ⟨_, rfl⟩
        rw [hB] at HO6
        have hfg : (f : Int) ≤ (gcap : Int) := by omega
        have hf0 : (0 : Int) ≤ (f : Int) := by omega
        have hu0 : (0 : Int) ≤ (u : Int) := by omega
        have hum : (u : Int) ≤ (m : Int) := by omega
        clear ho6 hb6 hos6 hog6 hgor HCL HS c0 c1 c2 c3 c4 c5 c6 hB
        go_upto_region 6 with fail
        go_cut [7, 14, 15, 16] (fun s7 s14 s15 s16 wx => s7 = .pointer (some ⟨w.heap.size, 0, none⟩) ∧ s14 = .pointer (some ⟨w.heap.size + 1, 0, none⟩) ∧ s15 = .pointer (some ⟨w.heap.size + 2, 0, none⟩) ∧ s16 = .slice gad m gcap ∧ ∃ (x1 : Option Addr) (y1 : Nat), Hid (OG w (.slice ad1 n k1) (.slice ad2 m k2) (.slice x3 (n + 1) y3) (.slice x1 f y1) (ownC cl a k) (G.take f) B (.slice gad m gcap) m G wx))
        case first =>
          have htk := RdK.take (HO6.out.drew.rd.rd) hf
          rw [Nat.mul_one, show (ints G).take f = ints (G.take f) by simp [ints]] at htk
          have HTK := Lib.hid htk
          have hlt : (G.take f).length = f := by rw [List.length_take, HGL.out, Nat.min_eq_left hf]
          have HLT := Lib.hid hlt
          clear htk hlt
          go_region_law (first
            | (refine step_appX (w := w6.drew) (by rfl) (.tmp 47) (.tmp 50) 26 (by rfl) 3 (.int .i64 0) 1 8 B Tryz.underlying26 info_int rfl (by decide) (by decide) (.slice none 0 0) 0 [] (by simp [Act.eval]) (World.ownsRow_nil _ _ _ _) f (ints (G.take f)) ⟨_, by simp [Act.eval], HTK.out⟩ (ints_one _) (by omega) HO6.out.hb ?_
               intro v' w5 ho5 hg5
               have hos : OG w _ _ _ _ _ _ _ _ _ _ _ := OG.app (ys := G.take f) (c2' := v') (W := w6.drew) HO6.out.drew (by rw [HLT.out]; simpa [ints] using ho5) hg5
               obtain ⟨q0, q1, q2⟩ := OS.cellG (W := w6.drew) HO6.out.drew.os hg5
               rw [Nat.zero_add] at ho5
               obtain ⟨x1', y1', hv'⟩ := owns_len ho5
               subst hv'
               rw [List.nil_append] at hos
               have HOS := Lib.hid hos
               clear hos ho5 hg5))
          all_goals
            go_wp2_with fail
            go_meet
            exact ⟨rfl, rfl, rfl, rfl, _, _, HOS.out⟩
        case rest =>
          clear HO6 d0 d1 d2 d3 d4 d5 d6
          obtain ⟨rfl, rfl, rfl, rfl, x4, y4, HS⟩ := hcut
          obtain ⟨c0, c1, c2, c3, c4, c5, c6⟩ := HS.out.os.facts
          have hlt : (G.take f).length = f := by rw [List.length_take, HGL.out, Nat.min_eq_left hf]
          have hr7 := HS.out.row
          rw [hlt] at hr7
          have HR7 := Lib.hid hr7
          have HLT := Lib.hid hlt
          have hco7 := HC.out.below HS.out.os.low
          rw [HP.out] at hco7
          have HC7 := Lib.hid hco7
          clear hr7 hlt hco7
          go_wp2_with (first
            | (at_builtin
               refine wpList_appX wc rfl _ _ 26 rfl 3 (.int .i64 0) 1 8 B Tryz.underlying26 info_int rfl (by decide) (by decide) (.slice x4 f y4) f (ints (G.take f)) rfl HR7.out p (ints come) ⟨_, rfl, HC7.out⟩ (ints_one _) (by omega) HS.out.hb ?_
               intro v' w7 ho7 hg7
               have hos : OG w _ _ _ _ _ _ _ _ _ _ _ := OG.app (ys := come) (c2' := v') HS.out (by rw [HLT.out, HP.out]; exact ho7) hg7
               obtain ⟨q0, q1, q2⟩ := HS.out.os.cellG hg7
               obtain ⟨x5, y5, hv'⟩ := owns_len ho7
               subst hv'
               have HOS := Lib.hid hos
               clear hos ho7 hg7)
            | fail)
          obtain ⟨w8, hw8⟩ : ∃ w8, w7.setCell ⟨w.heap.size + 2, 1, none⟩ (.slice x5 (f + p) y5) = w8 := ⟨_, rfl⟩
          rw [hw8] at HOS ⊢
          clear hw8 HS c0 c1 c2 c3 c4 c5 c6 q0 q1 q2
          obtain ⟨c0, c1, c2, c3, c4, c5, c6⟩ := HOS.out.os.facts
          have hlt : (G.take f ++ come).length = f + p := by rw [List.length_append, HLT.out, HP.out]
          have hr8 := HOS.out.row
          rw [hlt] at hr8
          have HR8 := Lib.hid hr8
          have HL8 : Hid ((G.take f ++ come).length = f + p ∧ (G.drop u).length = m - u) := ⟨hlt, by rw [List.length_drop, HGL.out]⟩
          have HFE : Hid (G.take f ++ come ++ G.drop u = repG (clipL gl (r - 1)) f u come) := by unfold Hid repG; rw [HG.out]
          clear hr8 hlt
          go_upto_region 8 with fail
          go_cut [7, 14, 15, 16] (fun s7 s14 s15 s16 wx => s7 = .pointer (some ⟨w.heap.size, 0, none⟩) ∧ s14 = .pointer (some ⟨w.heap.size + 1, 0, none⟩) ∧ s15 = .pointer (some ⟨w.heap.size + 2, 0, none⟩) ∧ s16 = .slice gad m gcap ∧ ∃ (x1 : Option Addr) (y1 q1 : Nat), Hid (OS w (.slice ad1 n k1) (.slice ad2 m k2) (.slice x3 (n + 1) y3) (.slice x1 q1 y1) (ownC cl a k) (repG (clipL gl (r - 1)) f u come) wx))
          case first =>
            obtain ⟨NN, hNN⟩ : ∃ NN, f + p + (m - u) = NN := ⟨_, rfl⟩
            have HNN := Lib.hid hNN
            clear hNN
            by_cases h0 : m = 0
            · obtain rfl : u = 0 := by omega
              obtain rfl : m = 0 := h0
              have HZR : ∀ (X : Option Addr) (c : Nat), Hid (RdK w8.drew 1 (.slice X 0 c) 0 (ints (G.drop 0))) := by
                intro X c
                unfold Hid
                rw [show G.drop 0 = [] from List.drop_eq_nil_of_le (by rw [HGL.out]; omega)]
                exact RdK.zero _ _ _ _
              go_region_law (first
                | (refine step_appX (w := w8.drew) (by rfl) (.tmp 59) (.tmp 62) 26 (by rfl) 3 (.int .i64 0) 1 8 B Tryz.underlying26 info_int rfl (by decide) (by decide) (.slice x5 (f + p) y5) (f + p) (ints (G.take f ++ come)) (by simp [Act.eval]) HR8.out 0 (ints (G.drop 0)) ⟨_, rfl, (HZR _ _).out⟩ (ints_one _) (by omega) HOS.out.hb ?_
                   intro v' w5 ho5 hg5
                   have hos : OG w _ _ _ _ _ _ _ _ _ _ _ := OG.app (ys := (G.drop 0)) (c2' := v') (W := w8.drew) HOS.out.drew (by rw [HL8.out.1, HL8.out.2]; exact ho5) hg5
                   obtain ⟨q0, q1, q2⟩ := OS.cellG (W := w8.drew) HOS.out.drew.os hg5
                   have ho6 := ho5
                   rw [show f + p + 0 = f + p by omega] at ho6
                   obtain ⟨x1', y1', hv'⟩ := owns_len ho6
                   subst hv'
                   rw [HFE.out] at hos
                   have HOS2 := Lib.hid hos.os
                   clear hos ho5 hg5 ho6))
              all_goals
                go_wp2_with fail
                go_meet
                exact ⟨rfl, rfl, rfl, rfl, _, _, _, HOS2.out⟩
            · obtain ⟨b, rfl, _⟩ := HGO.out.resolve_left h0
              by_cases hci : gcap = u
              · have hci' := hci.symm
                subst hci'
                have hmu : u = m := by omega
                subst hmu
                have HZR : ∀ (X : Option Addr) (c : Nat), Hid (RdK w8.drew 1 (.slice X 0 c) 0 (ints (G.drop u))) := by
                  intro X c
                  unfold Hid
                  rw [show G.drop u = [] from List.drop_eq_nil_of_le (by rw [HGL.out]; omega)]
                  exact RdK.zero _ _ _ _
                rw [Nat.sub_self] at HL8
                go_region_law (first
                  | (refine step_appX (w := w8.drew) (by rfl) (.tmp 59) (.tmp 62) 26 (by rfl) 3 (.int .i64 0) 1 8 B Tryz.underlying26 info_int rfl (by decide) (by decide) (.slice x5 (f + p) y5) (f + p) (ints (G.take f ++ come)) (by simp [Act.eval]) HR8.out 0 (ints (G.drop u)) ⟨_, rfl, (HZR _ _).out⟩ (ints_one _) (by omega) HOS.out.hb ?_
                     intro v' w5 ho5 hg5
                     have hos : OG w _ _ _ _ _ _ _ _ _ _ _ := OG.app (ys := (G.drop u)) (c2' := v') (W := w8.drew) HOS.out.drew (by rw [HL8.out.1, HL8.out.2]; exact ho5) hg5
                     obtain ⟨q0, q1, q2⟩ := OS.cellG (W := w8.drew) HOS.out.drew.os hg5
                     have ho6 := ho5
                     rw [show f + p + 0 = f + p by omega] at ho6
                     obtain ⟨x1', y1', hv'⟩ := owns_len ho6
                     subst hv'
                     rw [HFE.out] at hos
                     have HOS2 := Lib.hid hos.os
                     clear hos ho5 hg5 ho6))
                all_goals
                  go_wp2_with fail
                  go_meet
                  exact ⟨rfl, rfl, rfl, rfl, _, _, _, HOS2.out⟩
              · have hdp := (HOS.out.drew.rd.rd).drop (i := u) (by omega) (gcap - u)
                rw [Nat.mul_one, Nat.zero_add, show (ints G).drop u = ints (G.drop u) by simp [ints]] at hdp
                have HDP := Lib.hid hdp
                clear hdp
                go_region_law (first
                  | (refine step_appX (w := w8.drew) (by rfl) (.tmp 59) (.tmp 62) 26 (by rfl) 3 (.int .i64 0) 1 8 B Tryz.underlying26 info_int rfl (by decide) (by decide) (.slice x5 (f + p) y5) (f + p) (ints (G.take f ++ come)) (by simp [Act.eval]) HR8.out (m - u) (ints (G.drop u)) ⟨_, by simp [Act.eval], HDP.out⟩ (ints_one _) (by omega) HOS.out.hb ?_
                     intro v' w5 ho5 hg5
                     have hos : OG w _ _ _ _ _ _ _ _ _ _ _ := OG.app (ys := (G.drop u)) (c2' := v') (W := w8.drew) HOS.out.drew (by rw [HL8.out.1, HL8.out.2]; exact ho5) hg5
                     obtain ⟨q0, q1, q2⟩ := OS.cellG (W := w8.drew) HOS.out.drew.os hg5
                     have ho6 := ho5
                     rw [show f + p + (m - u) = f + p + (m - u) by omega] at ho6
                     obtain ⟨x1', y1', hv'⟩ := owns_len ho6
                     subst hv'
                     rw [HFE.out] at hos
                     have HOS2 := Lib.hid hos.os
                     clear hos ho5 hg5 ho6))
                all_goals
                  go_wp2_with fail
                  go_meet
                  exact ⟨rfl, rfl, rfl, rfl, _, _, _, HOS2.out⟩
          case rest =>
            clear HOS c0 c1 c2 c3 c4 c5 c6
            obtain ⟨rfl, rfl, rfl, rfl, x6, y6, q6, HS⟩ := hcut
            obtain ⟨c0, c1, c2, c3, c4, c5, c6⟩ := HS.out.facts
            have r0 := HS.out.res.two.1; have r1 := HS.out.res.two.2
            have r2 := HS.out.res.free 0; have r3 := HS.out.res.free 1
            go_wp2
            have v1 := HS.out.res.put2 (.slice x3 (n + 1) y3) (.slice x6 q6 y6)
            have e0 := v1.two.1; have e1 := v1.two.2
            refine bodyPost_ret (v := .agg #[.slice x3 (n + 1) y3, .slice x6 q6 y6]) (by simp [results, Tryz.results69, go_sem, e0, e1]) rfl ?_
            have z6 := HS.out.zn
            exact ⟨_, _, rfl, ⟨ownsRow_setCell_other (ownsRow_setCell_other z6.1 (HS.out.res.row_ne z6.1 (by decide)) _) (HS.out.res.row_ne z6.1 (by decide)) _, ownsRow_setCell_other (ownsRow_setCell_other z6.2 (HS.out.res.row_ne z6.2 (by decide)) _) (HS.out.res.row_ne z6.2 (by decide)) _⟩,
              (HS.out.low.setCell (p := ⟨w.heap.size + 1, 0, none⟩) (Nat.le_succ _) _).setCell (p := ⟨w.heap.size + 1, 1, none⟩) (Nat.le_succ _) _⟩

end Go.Proofs.YtkkoooagamadjaaGreatDoor

namespace Go.Proofs.YtkkoooagamadjaaGreatDoor
open Go.RowKit Go.Shelf

set_option maxRecDepth 100000 in
set_option maxHeartbeats 4000000 in
theorem rin24_any {w : World} {v1 v2 : Value} {cl : List (Int × Int)} {gl : List Int} {a r : Int} (hz : ZoneIn w v1 v2 cl gl) (i : Nat) (x y : Int) (hx : cl[i]? = some (x, y)) (hx0 : -9223372036854775808 ≤ x) (hx1 : x ≤ 9223372036854775807)
    (hcl : cl.length ≤ 1000) (hgl : gl.length ≤ 1000) (hr1 : 1 ≤ r) (hr2 : r ≤ 1000) :
    Calls Tryz.prog 70 #[.agg #[v1, v2], .int .i64 a, .int .i64 i, .int .i64 r] w fun e w' => ∃ c1 c2, e = .returned (.agg #[c1, c2]) ∧ ZoneAt w' w.heap.size c1 c2 (inCZ cl gl a r i x y).1 (inCZ cl gl a r i x y).2 ∧ Below w.heap.size w w' := by
  have hi : i < cl.length := (List.getElem?_eq_some_iff.1 hx).1
  obtain ⟨ad1, k1, e1⟩ := hz.1.len
  obtain ⟨ad2, k2, e2⟩ := hz.2.len
  obtain ⟨n, hn⟩ : ∃ n, cl.length = n := ⟨_, rfl⟩
  obtain ⟨m, hm⟩ : ∃ m, gl.length = m := ⟨_, rfl⟩
  have hz1 := hz.1
  rw [hn] at e1 hcl hz1 hi; rw [hm] at e2 hgl
  subst e1; subst e2
  have HZ := Lib.hid hz
  have HN := Lib.hid hn; have HM := Lib.hid hm; have HX := Lib.hid hx
  obtain ⟨W1, hW1⟩ : ∃ W1, w.alloc (.cells #[.slice ad1 n k1, .slice ad2 m k2] 28) = W1 := ⟨_, rfl⟩
  have hs1 : W1.heap.size = w.heap.size + 1 := by rw [← hW1]; simp
  obtain ⟨W2, hW2⟩ : ∃ W2, W1.alloc (.cells #[.slice none 0 0, .slice none 0 0] 28) = W2 := ⟨_, rfl⟩
  have hs2 : W2.heap.size = w.heap.size + 2 := by rw [← hW2]; simp [hs1]
  obtain ⟨W3, hW3⟩ : ∃ W3, W2.alloc (.cells #[] 47) = W3 := ⟨_, rfl⟩
  have hs3 : W3.heap.size = w.heap.size + 3 := by rw [← hW3]; simp [hs2]
  have hb3 : Below w.heap.size w W3 := by
    rw [← hW3, ← hW2, ← hW1]; exact (((Below.refl _ w).alloc (Nat.le_refl _) _).alloc (by simp) _).alloc (by simp; omega) _
  have x1 : Blk W3 w.heap.size #[.slice ad1 n k1, .slice ad2 m k2] 28 := by
    rw [← hW3, ← hW2, ← hW1]; exact ((Blk.new _ _ _).alloc _).alloc _
  have x2 : Blk W3 (w.heap.size + 1) #[.slice none 0 0, .slice none 0 0] 28 := by
    rw [← hW3, ← hW2, ← hs1]; exact (Blk.new _ _ _).alloc _
  have own0 : W3.ownsRow (w.heap.size + 2) 47 2 (.slice (some ⟨w.heap.size + 2, 0, none⟩) 0 0) 0 [] := by
    rw [← hW3, ← hs2]; exact World.ownsRow_lit W2 #[] 0 (Nat.le_refl _) (Nat.zero_le _) rfl
  have hr3 := hz1.below hb3
  have HX1 := Lib.hid x1; have HX2 := Lib.hid x2; have HB3 := Lib.hid hb3; have HO0 := Lib.hid own0; have HR3 := Lib.hid hr3
  have c0 := x1.two.1
  have hwr : IntKind.i64.wrap (r - 1) = r - 1 := by rw [IntKind.wrap_i64]; omega
  have hin : (i : Int) < (n : Int) := by omega
  have hi0 : (0 : Int) ≤ (i : Int) := by omega
  clear hz hz1 hb3 x1 x2 own0 hr3 hn hm hx
  go_enter Tryz.func70, Tryz.ntmps70
  go_wp2_with (first
    | (at_builtin
       refine wpList_appX W3 rfl _ _ 25 rfl 47 (.agg #[.int .i64 0, .int .i64 0]) 2 16 (w.heap.size + 2) Tryz.underlying25 info_class rfl (by decide) (by decide) (.slice (some ⟨w.heap.size + 2, 0, none⟩) 0 0) 0 [] rfl HO0.out n (cellsP cl) ⟨_, rfl, HR3.out⟩ (cellsP_one _) (by omega) (by omega) ?_
       intro v' w5 ho5 hg5
       have y1 := HX1.out.grown hg5 (by simp only [Value.ownBlock, ne_eq, Option.some.injEq]; omega)
       have y2 := HX2.out.grown hg5 (by simp only [Value.ownBlock, ne_eq, Option.some.injEq]; omega)
       have hb5 := HB3.out.grown hg5 HB3.out.size (fun k e => by simp [Value.ownBlock] at e; omega)
       rw [Nat.zero_add, List.nil_append] at ho5
       obtain ⟨g5, cap5, hv', hg5a, hg5b⟩ := owns_shape ho5 (by omega)
       subst hv'
       have cx := cellsP_get _ _ _ HX.out
       have d0 : w5.cell? ⟨g5, i * 2, none⟩ = some (.int .i64 x) := by rw [ho5.cellAt _ (by omega)]; exact cx.1
       have hne1 : w.heap.size ≠ g5 := by omega
       have HY1 := Lib.hid y1; have HY2 := Lib.hid y2; have HB5 := Lib.hid hb5; have HO5 := Lib.hid ho5
       clear y1 y2 hb5 cx ho5 hg5)
    | fail)
  have HPT := Lib.hid (put_any x a true w5 hx0 hx1)
  obtain ⟨bb, hbb⟩ : ∃ bb, putZ x a true = bb := ⟨_, rfl⟩
  have HBB := Lib.hid hbb
  rw [hbb] at HPT
  clear hbb
  with_reducible refine HPT.out.mono ?_
  rintro e w6 ⟨rfl, hb6⟩
  have y1 := HY1.out.keep hb6
  have y2 := HY2.out.keep hb6
  have o6 := owns_below HO5.out hb6
  have hb60 := HB5.out.trans (hb6.mono HB5.out.size)
  have d1 : w6.cell? ⟨g5, i * 2, none⟩ = some (.int .i64 x) := by
    rw [o6.cellAt _ (by omega)]; exact (cellsP_get _ _ _ HX.out).1
  have d2 := owns_frozen o6 (i * 2)
  have hne2 : w.heap.size + 1 ≠ g5 := by omega
  have y3 := y1.other (g := g5) (j := i * 2) hne1 (.int .i64 bb)
  have y4 := y2.other (g := g5) (j := i * 2) hne2 (.int .i64 bb)
  have o7 := owns_set o6 (i * 2) (.int .i64 bb)
  have hb7 : Below w.heap.size w (w6.setCell ⟨g5, i * 2, none⟩ (.int .i64 bb)) := hb60.setCell (p := ⟨g5, i * 2, none⟩) (by simp; omega) _
  rw [← cellsP_set1 _ _ _ _ _ HX.out] at o7
  obtain ⟨w7, hw7⟩ : ∃ w7, w6.setCell ⟨g5, i * 2, none⟩ (.int .i64 bb) = w7 := ⟨_, rfl⟩
  rw [hw7] at y3 y4 o7 hb7
  have c7 := y3.two.2
  have HCL := Lib.hid (rclipped_any (w := w7) (r - 1) (HZ.out.below hb7).2 (by rw [HM.out]; omega))
  rw [HM.out] at HCL
  have HY3 := Lib.hid y3; have HY4 := Lib.hid y4; have HO7 := Lib.hid o7; have HB7 := Lib.hid hb7
  have hg6 : g5 < w6.heap.size := Nat.lt_of_lt_of_le hg5b hb6.size
  clear y1 y2 o6 hb60 y3 y4 o7 hb7 hb6 HPT HY1 HY2 HO5 HB5 d0
  go_wp2_with fail
  refine HCL.out.mono ?_
  rintro e w8 ⟨gv, rfl, ho8, hb8⟩
  obtain ⟨gad, gcap, hgv⟩ := owns_len ho8
  subst hgv
  have y8 := HY4.out.keep hb8
  have e0 := y8.two.1; have e1 := y8.two.2; have e2 := y8.free 0; have e3 := y8.free 1
  have o8 := owns_below HO7.out hb8
  have hb80 := HB7.out.trans (hb8.mono HB7.out.size)
  have HY8 := Lib.hid y8; have HO8 := Lib.hid o8; have HB8 := Lib.hid hb80; have HG8 := Lib.hid (owns_mono ho8 HB7.out.size)
  have hl8 := y8.lt
  clear ho8 hb8 y8 o8 hb80
  go_wp2
  have v1 := HY8.out.put2 (.slice (some ⟨g5, 0, none⟩) n cap5) (.slice gad m gcap)
  have f0 := v1.two.1; have f1 := v1.two.2
  refine bodyPost_ret (v := .agg #[.slice (some ⟨g5, 0, none⟩) n cap5, .slice gad m gcap]) (by simp [results, Tryz.results70, go_sem, f0, f1]) rfl ?_
  refine ⟨_, _, rfl, ⟨?_, ?_⟩, (HB8.out.setCell (p := ⟨w.heap.size + 1, 0, none⟩) (Nat.le_succ _) _).setCell (p := ⟨w.heap.size + 1, 1, none⟩) (Nat.le_succ _) _⟩
  · unfold inCZ
    dsimp only
    rw [HBB.out, List.length_set, HN.out]
    have o9 := owns_mono HO8.out (show w.heap.size ≤ w.heap.size + 2 by omega)
    exact ownsRow_setCell_other (ownsRow_setCell_other o9 (HY8.out.row_ne o9 (by decide)) _) (HY8.out.row_ne o9 (by decide)) _
  · unfold inCZ
    dsimp only
    rw [clipL_len, HM.out]
    exact ownsRow_setCell_other (ownsRow_setCell_other HG8.out (HY8.out.row_ne HG8.out (by decide)) _) (HY8.out.row_ne HG8.out (by decide)) _

end Go.Proofs.YtkkoooagamadjaaGreatDoor
