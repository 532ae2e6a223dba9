/- zone.Text: the walk. write.Unique, write.Less. -/
import Derived.Test.YtkkoooagamadjaaGreatDoorPk28

namespace Go.Proofs.YtkkoooagamadjaaGreatDoor
open Go.RowKit

set_option maxRecDepth 100000 in
set_option maxHeartbeats 4000000 in
theorem ztext_P {w : World} (ht : PTab w) {v1 v2 : Value} {cl : List (Int × Int)} {gl : List Int} (hz : ZoneIn w v1 v2 cl gl) (hc : cl.length ≤ 1000) (hg : gl.length ≤ 1000) (hI : I64 (cl, gl)) :
    Calls Tryz.prog 55 #[.agg #[v1, v2]] w fun e w' => e = .returned (.string (zoneS (cl, gl))) ∧ Below w.heap.size w w' := by
  obtain ⟨ad1, k1, e1⟩ := hz.1.len
  obtain ⟨ad2, k2, e2⟩ := hz.2.len
  have hlj := joinR_len (zoneP cl gl) [32] 41 (zoneP_small cl gl hI)
  have hlp := zoneP_len cl gl
  obtain ⟨n, hn⟩ : ∃ n, cl.length = n := ⟨_, rfl⟩
  obtain ⟨m, hm⟩ : ∃ m, gl.length = m := ⟨_, rfl⟩
  rw [hn] at e1 hc hlp; rw [hm] at e2 hg hlp
  subst e1; subst e2
  obtain ⟨W1, hW1⟩ : ∃ W1, w.alloc (.cells #[.slice ad1 n k1, .slice ad2 m k2] 28) = W1 := ⟨_, rfl⟩
  have hs1 : W1.heap.size = w.heap.size + 1 := by rw [← hW1]; simp
  have hb1 : Below w.heap.size w W1 := by rw [← hW1]; exact (Below.refl _ _).alloc (Nat.le_refl _) _
  have x1 : Blk W1 w.heap.size #[.slice ad1 n k1, .slice ad2 m k2] 28 := by rw [← hW1]; exact Blk.new _ _ _
  have HZ := Lib.hid (hz.below hb1); have HT := Lib.hid (ht.keep hb1); have HX := Lib.hid x1; have HB1 := Lib.hid hb1; have HI := Lib.hid hI
  have HN := Lib.hid hn; have HM := Lib.hid hm; have HLJ := Lib.hid hlj; have HLP := Lib.hid hlp
  have c0 := x1.two.1
  have HPR : Hid (∀ z : Int, (-9223372036854775808 ≤ z ∧ z ≤ 9223372036854775807) → ∀ W, Below W1.heap.size W1 W → Calls Tryz.prog 89 #[.int .i64 z] W fun e w' => e = .returned (.string ⟨(Lib.itoa z).toArray⟩) ∧ Below W.heap.size W w') := fun z hz W hW => print_P (HT.out.keep hW) z hz.1 hz.2
  clear hz ht hb1 x1 hn hm hlj hlp hI hs1
  go_enter Tryz.func55, Tryz.ntmps55
  go_wp2_with fail
  go_loopw [3, 10] (fun v i wr => ∃ (k p : Nat) (x : Option Addr) (y : Nat), k ≤ n ∧ i = .int .i64 k ∧ v = .slice x p y ∧ p ≤ 3 * k ∧ Hid (SR wr W1.heap.size (.slice x p y) p (clsP gl 0 (cl.take k))) ∧ Hid (Below W1.heap.size W1 wr)) (fun _ i _ => n - (intOf i).toNat)
  case atStart => exact ⟨0, 0, none, 0, Nat.zero_le _, rfl, rfl, Nat.zero_le _, SR.nil _ _, Below.refl _ _⟩
  case round =>
    clear c0
    obtain ⟨k, p, x, y, hk, rfl, rfl, hp, HR0, HB0⟩ := hrel
    by_cases hlt : k < n
    · have hkn : (k : Int) < (n : Int) := by omega
      have hk0 : (0 : Int) ≤ (k : Int) := by omega
      obtain ⟨⟨ca, cb⟩, hcc⟩ : ∃ c, cl[k]? = some c := ⟨_, List.getElem?_eq_getElem (by rw [HN.out]; exact hlt)⟩
      have hcI := HI.out.1 _ (List.mem_of_getElem? hcc)
      obtain ⟨b, off, had, hbl, hcell⟩ := (HZ.out.1.below HB0.out).at (by rw [HN.out]; omega)
      subst had
      obtain ⟨q1, q2⟩ := cellsP_get _ _ _ hcc
      have d0 := hcell _ _ q1
      have d1 := hcell _ _ q2
      rw [← Nat.add_assoc] at d1
      have HTK := Lib.hid (clsP_take gl cl k _ hcc)
      obtain ⟨W5, hW5⟩ : ∃ W5, wr.alloc (.cells #[.int .i64 ca, .int .i64 cb] 47) = W5 := ⟨_, rfl⟩
      have hb5 : Below wr.heap.size wr W5 := by rw [← hW5]; exact (Below.refl _ _).alloc (Nat.le_refl _) _
      have x5 : Blk W5 wr.heap.size #[.int .i64 ca, .int .i64 cb] 47 := by rw [← hW5]; exact Blk.new _ _ _
      obtain ⟨b5, hb5e⟩ : ∃ b5, wr.heap.size = b5 := ⟨_, rfl⟩
      have HB5 := Lib.hid (HB0.out.trans (hb5.mono HB0.out.size))
      have HR5 := Lib.hid (HR0.out.below hb5)
      rw [hb5e] at x5
      have HX5 := Lib.hid x5
      have c1 := (HX.out.keep HB5.out).cell (i := 1) rfl
      obtain ⟨pa, hpa⟩ : ∃ pa : ByteArray, ⟨(Lib.itoa ca).toArray⟩ = pa := ⟨_, rfl⟩
      obtain ⟨pb, hpb⟩ : ∃ pb : ByteArray, ⟨(Lib.itoa cb).toArray⟩ = pb := ⟨_, rfl⟩
      have hcat := cls_cat ca cb
      rw [hpa, hpb] at hcat
      have HCAT := Lib.hid hcat
      have hla : pa.size ≤ 20 := by rw [← hpa, baP_size]; exact itoaP_len ca hcI.1
      have hlb : pb.size ≤ 20 := by rw [← hpb, baP_size]; exact itoaP_len cb hcI.2
      have hn1 : ¬ 9223372036854775807 < pa.size + 1 := by omega
      have hn2 : ¬ 9223372036854775807 < pa.size + 1 + pb.size := by omega
      have hpa0 := HPR.out ca hcI.1
      have hpb0 := HPR.out cb hcI.2
      rw [hpa] at hpa0; rw [hpb] at hpb0
      clear hcc hcI hcell q1 q2 hb5 x5 HR0 HB0 hcat hpa hpb hlt
      have hpp : p + 3 ≤ 10000 := by omega
      rcases (show m < k ∨ k = m ∨ k < m by omega) with hmk | hmk | hmk
      · have hmk' : (m : Int) < (k : Int) := by omega
        have hkz : (0 : Int) < (k : Int) := by omega
        have hno : ¬ (k : Int) < (m : Int) := by omega
        obtain ⟨x6, y6, wa, hrun, hsr, hb6, hg6⟩ := HR5.out.app [barB] 1 rfl #[.string { data := #[124] }] rfl 114 HB5.out.size (by omega)
        have hx6 : Blk wa b5 #[.int .i64 ca, .int .i64 cb] 47 := (HX5.out.alloc _).grown hg6 (HX5.out.row_ne HR5.out.2 (by decide))
        have HR := Lib.hid hsr
        have HB := Lib.hid (HB5.out.trans (hb6.mono (Nat.le_refl _)))
        have HX6 := Lib.hid hx6
        have HPA : Hid (∀ W, Below wa.heap.size wa W → Calls Tryz.prog 89 #[.int .i64 ca] W fun e w' => e = .returned (.string pa) ∧ Below W.heap.size W w') := fun W hW => hpa0 W (HB.out.trans (hW.mono HB.out.size))
        have HPB : Hid (∀ W, Below wa.heap.size wa W → Calls Tryz.prog 89 #[.int .i64 cb] W fun e w' => e = .returned (.string pb) ∧ Below W.heap.size W w') := fun W hW => hpb0 W (HB.out.trans (hW.mono HB.out.size))
        have HST : Hid (stepP gl k (ca, cb) = [barB, clsB (ca, cb)]) := by unfold Hid stepP; rw [HM.out, if_pos ⟨by omega, by omega⟩, if_neg (by omega)]; rfl
        clear hsr hb6 hg6 hx6 hpa0 hpb0 HB5 HX5 HR5 hmk
        have HX5 := HX6
        clear HX6
        go_wp2_with (first | (at_builtin; refine wpList_append_known _ rfl _ _ _ _ rfl _ _ rfl rfl _ _ hrun ?_; clear hrun c1 d0 d1 hW5) | fail)
        have HSF : Hid (∀ W, Below wa.heap.size wa W → W.cell? ⟨b5, 0, none⟩ = some (.int .i64 ca) ∧ W.cell? ⟨b5, 1, none⟩ = some (.int .i64 cb)) := fun W hW => ⟨(HX5.out.keep hW).cell (i := 0) rfl, (HX5.out.keep hW).cell (i := 1) rfl⟩
        obtain ⟨r0, r1⟩ := HSF.out wa (Below.refl _ _)
        have hbz : Below wa.heap.size wa wa.drew := (Below.refl _ _).drew
        go_upto_region 7 with fail
        go_cut [3] from 11 to 37 (fun s3 wx => ∃ (x' : Option Addr) (y' : Nat), s3 = .slice x' (p + 1 + 1) y' ∧ Hid (SR wx W1.heap.size (.slice x' (p + 1 + 1) y') (p + 1 + 1) ((clsP gl 0 (cl.take k) ++ [barB]) ++ [clsB (ca, cb)]) ∧ Below W1.heap.size W1 wx))
        case first =>
          go_region_law (first
            | (go_simp; go_at_call 89; (with_reducible refine (HPA.out _ hbz).mono ?_)
               rintro e' w11 ⟨rfl, hbs⟩
               have hbz1 := hbz.trans (hbs.mono hbz.size)
               obtain ⟨s0, s1⟩ := HSF.out w11 hbz1
               clear hbs)
            | (go_simp; go_at_call 89; (with_reducible refine (HPB.out _ hbz1).mono ?_)
               rintro e' w12 ⟨rfl, hbs⟩
               have hbz2 := hbz1.trans (hbs.mono hbz1.size)
               have HRB := Lib.hid (HR.out.below hbz2)
               have HBB := Lib.hid (HB.out.trans (hbz2.mono HB.out.size))
               obtain ⟨x', y', w13, hrun, hsr, hb13, -⟩ := HRB.out.app [clsB (ca, cb)] 1 rfl #[.string (pa ++ { data := #[58] } ++ pb)] (by rw [HCAT.out]; rfl) 114 HBB.out.size (by omega)
               have HR13 := Lib.hid hsr
               have HB13 := Lib.hid (HBB.out.trans (hb13.mono (Nat.le_refl _)))
               clear hbs hsr hb13)
            | (refine step_append_known (by rfl) (.tmp 27) (.tmp 36) 114 114 (by rfl) (.slice x6 (p + 1) y6) (.slice (some ⟨w12.heap.size, 0, none⟩) 1 1) (by simp [Act.eval]) (by simp [Act.eval]) _ _ hrun ?_
               clear hrun))
          all_goals
            go_wp2_with fail
            go_meet
            exact ⟨x', y', rfl, HR13.out, HB13.out⟩
        case rest =>
          clear r0 r1 hbz HSF
          obtain ⟨x', y', rfl, HC⟩ := hcut
          obtain ⟨w13, rfl⟩ : ∃ W, W = wc := ⟨_, rfl⟩
          have HR13 := Lib.hid HC.out.1
          have HB13 := Lib.hid HC.out.2
          clear HC
          have c1 := (HX.out.keep HB13.out).cell (i := 1) rfl
          have HRE : Hid (SR w13 W1.heap.size (.slice x' (p + 1 + 1) y') (p + 1 + 1) (clsP gl 0 (cl.take (k + 1)))) := by unfold Hid; rw [HTK.out, HST.out]; have := HR13.out; rwa [List.append_assoc] at this
          go_wp2_with fail
          go_roundw
          case rel => exact ⟨k + 1, p + 1 + 1, x', y', by omega, by go_num, rfl, by omega, HRE, HB13⟩
          case measure => simp [intOf]; omega
      · have hmk' : ¬ (m : Int) < (k : Int) := by omega
        have hno : ¬ (k : Int) < (m : Int) := by omega
        obtain ⟨wa, hwa⟩ : ∃ wa, W5 = wa := ⟨_, rfl⟩
        have hHR := HR5.out; have hHB := HB5.out; have hHX := HX5.out
        rw [hwa] at hHR hHB hHX
        rw [hwa] at hW5 c1
        clear hwa HR5 HB5 HX5
        have HR := Lib.hid hHR; have HB := Lib.hid hHB; have HX5 := Lib.hid hHX
        have HPA : Hid (∀ W, Below wa.heap.size wa W → Calls Tryz.prog 89 #[.int .i64 ca] W fun e w' => e = .returned (.string pa) ∧ Below W.heap.size W w') := fun W hW => hpa0 W (HB.out.trans (hW.mono HB.out.size))
        have HPB : Hid (∀ W, Below wa.heap.size wa W → Calls Tryz.prog 89 #[.int .i64 cb] W fun e w' => e = .returned (.string pb) ∧ Below W.heap.size W w') := fun W hW => hpb0 W (HB.out.trans (hW.mono HB.out.size))
        have HST : Hid (stepP gl k (ca, cb) = [clsB (ca, cb)]) := by unfold Hid stepP; rw [HM.out, if_neg (by omega), if_neg (by omega)]; rfl
        clear hHR hHB hHX hpa0 hpb0 hmk
        have HSF : Hid (∀ W, Below wa.heap.size wa W → W.cell? ⟨b5, 0, none⟩ = some (.int .i64 ca) ∧ W.cell? ⟨b5, 1, none⟩ = some (.int .i64 cb)) := fun W hW => ⟨(HX5.out.keep hW).cell (i := 0) rfl, (HX5.out.keep hW).cell (i := 1) rfl⟩
        obtain ⟨r0, r1⟩ := HSF.out wa (Below.refl _ _)
        have hbz : Below wa.heap.size wa wa.drew := (Below.refl _ _).drew
        go_upto_region 7 with fail
        go_cut [3] from 11 to 37 (fun s3 wx => ∃ (x' : Option Addr) (y' : Nat), s3 = .slice x' (p + 1) y' ∧ Hid (SR wx W1.heap.size (.slice x' (p + 1) y') (p + 1) (clsP gl 0 (cl.take k) ++ [clsB (ca, cb)]) ∧ Below W1.heap.size W1 wx))
        case first =>
          go_region_law (first
            | (go_simp; go_at_call 89; (with_reducible refine (HPA.out _ hbz).mono ?_)
               rintro e' w11 ⟨rfl, hbs⟩
               have hbz1 := hbz.trans (hbs.mono hbz.size)
               obtain ⟨s0, s1⟩ := HSF.out w11 hbz1
               clear hbs)
            | (go_simp; go_at_call 89; (with_reducible refine (HPB.out _ hbz1).mono ?_)
               rintro e' w12 ⟨rfl, hbs⟩
               have hbz2 := hbz1.trans (hbs.mono hbz1.size)
               have HRB := Lib.hid (HR.out.below hbz2)
               have HBB := Lib.hid (HB.out.trans (hbz2.mono HB.out.size))
               obtain ⟨x', y', w13, hrun, hsr, hb13, -⟩ := HRB.out.app [clsB (ca, cb)] 1 rfl #[.string (pa ++ { data := #[58] } ++ pb)] (by rw [HCAT.out]; rfl) 114 HBB.out.size (by omega)
               have HR13 := Lib.hid hsr
               have HB13 := Lib.hid (HBB.out.trans (hb13.mono (Nat.le_refl _)))
               clear hbs hsr hb13)
            | (refine step_append_known (by rfl) (.tmp 27) (.tmp 36) 114 114 (by rfl) (.slice x (p) y) (.slice (some ⟨w12.heap.size, 0, none⟩) 1 1) (by simp [Act.eval]) (by simp [Act.eval]) _ _ hrun ?_
               clear hrun))
          all_goals
            go_wp2_with fail
            go_meet
            exact ⟨x', y', rfl, HR13.out, HB13.out⟩
        case rest =>
          clear r0 r1 hbz HSF
          obtain ⟨x', y', rfl, HC⟩ := hcut
          obtain ⟨w13, rfl⟩ : ∃ W, W = wc := ⟨_, rfl⟩
          have HR13 := Lib.hid HC.out.1
          have HB13 := Lib.hid HC.out.2
          clear HC
          have c1 := (HX.out.keep HB13.out).cell (i := 1) rfl
          have HRE : Hid (SR w13 W1.heap.size (.slice x' (p + 1) y') (p + 1) (clsP gl 0 (cl.take (k + 1)))) := by unfold Hid; rw [HTK.out, HST.out]; exact HR13.out
          go_wp2_with fail
          go_roundw
          case rel => exact ⟨k + 1, p + 1, x', y', by omega, by go_num, rfl, by omega, HRE, HB13⟩
          case measure => simp [intOf]; omega
      · have hmk' : ¬ (m : Int) < (k : Int) := by omega
        have hyes : (k : Int) < (m : Int) := by omega
        obtain ⟨g0, hgg⟩ : ∃ g, gl[k]? = some g := ⟨_, List.getElem?_eq_getElem (by rw [HM.out]; exact hmk)⟩
        have hgd : gl.getD k 0 = g0 := by rw [List.getD_eq_getElem?_getD, hgg]; rfl
        have hgI := HI.out.2 _ (List.mem_of_getElem? hgg)
        obtain ⟨wa, hwa⟩ : ∃ wa, W5 = wa := ⟨_, rfl⟩
        have hHR := HR5.out; have hHB := HB5.out; have hHX := HX5.out
        rw [hwa] at hHR hHB hHX
        rw [hwa] at hW5 c1
        clear hwa HR5 HB5 HX5
        have HR := Lib.hid hHR; have HB := Lib.hid hHB; have HX5 := Lib.hid hHX
        have HPA : Hid (∀ W, Below wa.heap.size wa W → Calls Tryz.prog 89 #[.int .i64 ca] W fun e w' => e = .returned (.string pa) ∧ Below W.heap.size W w') := fun W hW => hpa0 W (HB.out.trans (hW.mono HB.out.size))
        have HPB : Hid (∀ W, Below wa.heap.size wa W → Calls Tryz.prog 89 #[.int .i64 cb] W fun e w' => e = .returned (.string pb) ∧ Below W.heap.size W w') := fun W hW => hpb0 W (HB.out.trans (hW.mono HB.out.size))
        have HST : Hid (stepP gl k (ca, cb) = [clsB (ca, cb), Lib.itoa g0]) := by unfold Hid stepP; rw [HM.out, if_neg (by omega), if_pos (by omega), hgd]; rfl
        have HPG := Lib.hid (HPR.out g0 hgI)
        have HGG := Lib.hid hgg
        clear hHR hHB hHX hpa0 hpb0 hgI hgg hgd hmk
        have HSF : Hid (∀ W, Below wa.heap.size wa W → W.cell? ⟨b5, 0, none⟩ = some (.int .i64 ca) ∧ W.cell? ⟨b5, 1, none⟩ = some (.int .i64 cb)) := fun W hW => ⟨(HX5.out.keep hW).cell (i := 0) rfl, (HX5.out.keep hW).cell (i := 1) rfl⟩
        obtain ⟨r0, r1⟩ := HSF.out wa (Below.refl _ _)
        have hbz : Below wa.heap.size wa wa.drew := (Below.refl _ _).drew
        go_upto_region 7 with fail
        go_cut [3] from 11 to 37 (fun s3 wx => ∃ (x' : Option Addr) (y' : Nat), s3 = .slice x' (p + 1) y' ∧ Hid (SR wx W1.heap.size (.slice x' (p + 1) y') (p + 1) (clsP gl 0 (cl.take k) ++ [clsB (ca, cb)]) ∧ Below W1.heap.size W1 wx))
        case first =>
          go_region_law (first
            | (go_simp; go_at_call 89; (with_reducible refine (HPA.out _ hbz).mono ?_)
               rintro e' w11 ⟨rfl, hbs⟩
               have hbz1 := hbz.trans (hbs.mono hbz.size)
               obtain ⟨s0, s1⟩ := HSF.out w11 hbz1
               clear hbs)
            | (go_simp; go_at_call 89; (with_reducible refine (HPB.out _ hbz1).mono ?_)
               rintro e' w12 ⟨rfl, hbs⟩
               have hbz2 := hbz1.trans (hbs.mono hbz1.size)
               have HRB := Lib.hid (HR.out.below hbz2)
               have HBB := Lib.hid (HB.out.trans (hbz2.mono HB.out.size))
               obtain ⟨x', y', w13, hrun, hsr, hb13, -⟩ := HRB.out.app [clsB (ca, cb)] 1 rfl #[.string (pa ++ { data := #[58] } ++ pb)] (by rw [HCAT.out]; rfl) 114 HBB.out.size (by omega)
               have HR13 := Lib.hid hsr
               have HB13 := Lib.hid (HBB.out.trans (hb13.mono (Nat.le_refl _)))
               clear hbs hsr hb13)
            | (refine step_append_known (by rfl) (.tmp 27) (.tmp 36) 114 114 (by rfl) (.slice x (p) y) (.slice (some ⟨w12.heap.size, 0, none⟩) 1 1) (by simp [Act.eval]) (by simp [Act.eval]) _ _ hrun ?_
               clear hrun))
          all_goals
            go_wp2_with fail
            go_meet
            exact ⟨x', y', rfl, HR13.out, HB13.out⟩
        case rest =>
          clear r0 r1 hbz HSF
          obtain ⟨x', y', rfl, HC⟩ := hcut
          obtain ⟨w13, rfl⟩ : ∃ W, W = wc := ⟨_, rfl⟩
          have HR13 := Lib.hid HC.out.1
          have HB13 := Lib.hid HC.out.2
          clear HC
          have c1 := (HX.out.keep HB13.out).cell (i := 1) rfl
          obtain ⟨bg, offg, hadg, _, hcg⟩ := (HZ.out.2.below HB13.out).at (by rw [HM.out]; omega)
          subst hadg
          have g1 : w13.cell? ⟨bg, offg + k, none⟩ = some (.int .i64 g0) := hcg k _ (by unfold ints; rw [List.getElem?_map, HGG.out]; rfl)
          have HPG13 := Lib.hid (HPG.out w13 HB13.out)
          clear hcg
          go_wp2_with fail
          refine HPG13.out.mono ?_
          rintro e w14 ⟨rfl, hb14⟩
          have HR14 := Lib.hid (HR13.out.below hb14)
          have HB14 := Lib.hid (HB13.out.trans (hb14.mono HB13.out.size))
          clear hb14 c1 g1 HPG13 HR13 HB13 HPG
          obtain ⟨x'', y'', w15, hrun, hsr, hb15, -⟩ := HR14.out.app [Lib.itoa g0] 1 rfl #[.string ⟨(Lib.itoa g0).toArray⟩] rfl 114 HB14.out.size (by omega)
          have HRE : Hid (SR w15 W1.heap.size (.slice x'' (p + 1 + 1) y'') (p + 1 + 1) (clsP gl 0 (cl.take (k + 1)))) := by unfold Hid; rw [HTK.out, HST.out]; rwa [List.append_assoc] at hsr
          have HB15 := Lib.hid (HB14.out.trans (hb15.mono (Nat.le_refl _)))
          clear hsr hb15
          go_wp2_with (first | (at_builtin; refine wpList_append_known _ rfl _ _ _ _ rfl _ _ rfl rfl _ _ hrun ?_; clear hrun) | fail)
          go_roundw
          case rel => exact ⟨k + 1, p + 1 + 1, x'', y'', by omega, by go_num, rfl, by omega, HRE, HB15⟩
          case measure => simp [intOf]; omega
    · obtain rfl : k = n := by omega
      have c0 := (HX.out.keep HB0.out).cell (i := 0) rfl
      have HB := HB0; have HR : Hid (SR wr W1.heap.size (.slice x p y) p (clsP gl 0 cl)) := by
        have := HR0.out
        rw [List.take_of_length_le (by rw [HN.out]; exact Nat.le_refl _)] at this
        exact this
      clear HB0 HR0
      go_wp2_with fail
      obtain ⟨w1, rfl⟩ : ∃ w1, w1 = wr := ⟨_, rfl⟩
      clear c0
      go_loopw [3, 6] (fun v i wr => ∃ (j p : Nat) (x : Option Addr) (y : Nat), i = .int .i64 ((k + j : Nat) : Int) ∧ (j = 0 ∨ k + j ≤ m) ∧ v = .slice x p y ∧ p ≤ 3 * k + 2 * j ∧ Hid (SR wr W1.heap.size (.slice x p y) p (clsP gl 0 cl ++ restP ((gl.drop k).take j))) ∧ Hid (Below W1.heap.size W1 wr)) (fun _ i _ => m - (intOf i).toNat)
      case atStart => exact ⟨0, p, x, y, rfl, .inl rfl, rfl, by omega, Lib.hid (by have := HR.out; simpa [restP] using this), HB.out⟩
      case round =>
        obtain ⟨j, q, x, y, rfl, hj, rfl, hq, HR0, HB0⟩ := hrel
        have c1 := (HX.out.keep HB0.out).cell (i := 1) rfl
        by_cases hlt : k + j < m
        · have hkn : ((k + j : Nat) : Int) < (m : Int) := by omega
          have hk0 : (0 : Int) ≤ ((k + j : Nat) : Int) := by omega
          obtain ⟨J, hJ⟩ : ∃ J, k + j = J := ⟨_, rfl⟩
          obtain ⟨g0, hgg⟩ : ∃ g, gl[J]? = some g := ⟨_, List.getElem?_eq_getElem (by rw [HM.out]; omega)⟩
          have hgI := HI.out.2 _ (List.mem_of_getElem? hgg)
          obtain ⟨bg, offg, hadg, _, hcg⟩ := (HZ.out.2.below HB0.out).at (by rw [HM.out]; omega)
          subst hadg
          have g1 : wr.cell? ⟨bg, offg + J, none⟩ = some (.int .i64 g0) := hcg J _ (by unfold ints; rw [List.getElem?_map, hgg]; rfl)
          have HPG := Lib.hid (HPR.out g0 hgI wr HB0.out)
          have HRT := Lib.hid (restP_take (gl.drop k) j g0 (by rw [List.getElem?_drop, hJ]; exact hgg))
          have HJ := Lib.hid hJ
          have hJ1 : ((J : Int) + 1) = ((k + (j + 1) : Nat) : Int) := by omega
          have HJ1 := Lib.hid hJ1
          have hJm : J ≤ 1000 := by omega
          rw [hJ] at hkn hk0 ⊢
          have hmea : m - (J + 1) < m - J := by omega
          have hJs : (j + 1 = 0 ∨ k + (j + 1) ≤ m) := by omega
          have HJS := Lib.hid hJs
          clear hgg hgI hcg hJ1 hJs hlt
          go_wp2_with fail
          refine HPG.out.mono ?_
          rintro e w14 ⟨rfl, hb14⟩
          have HR14 := Lib.hid (HR0.out.below hb14)
          have HB14 := Lib.hid (HB0.out.trans (hb14.mono HB0.out.size))
          clear hb14 c1 g1 HPG HR0 HB0
          obtain ⟨x'', y'', w15, hrun, hsr, hb15, -⟩ := HR14.out.app [barB, Lib.itoa g0] 2 rfl #[.string { data := #[124] }, .string ⟨(Lib.itoa g0).toArray⟩] rfl 114 HB14.out.size (by omega)
          have HRE : Hid (SR w15 W1.heap.size (.slice x'' (q + 2) y'') (q + 2) (clsP gl 0 cl ++ restP ((gl.drop k).take (j + 1)))) := by unfold Hid; rw [HRT.out]; rwa [List.append_assoc] at hsr
          have HB15 := Lib.hid (HB14.out.trans (hb15.mono (Nat.le_refl _)))
          clear hsr hb15
          go_wp2_with (first | (at_builtin; refine wpList_append_known _ rfl _ _ _ _ rfl _ _ rfl rfl _ _ hrun ?_; clear hrun) | fail)
          go_roundw
          case rel => exact ⟨j + 1, q + 2, x'', y'', int_eq HJ1.out, HJS.out, rfl, by omega, HRE, HB15⟩
          case measure => simp [intOf]; omega
        · have hkn : ¬ ((k + j : Nat) : Int) < (m : Int) := by omega
          have hpz : q ≤ 5000 := by omega
          have hfin : (clsP gl 0 cl ++ restP ((gl.drop k).take j)) = zoneP cl gl := by
            unfold zoneP
            rw [HN.out, List.take_of_length_le (by rw [List.length_drop, HM.out]; omega)]
          have hsr := HR0.out
          rw [hfin] at hsr
          have HSR := Lib.hid hsr
          have HB := HB0
          obtain ⟨J, hJ⟩ : ∃ J, k + j = J := ⟨_, rfl⟩
          rw [hJ] at hkn ⊢
          clear hfin hsr HR0 HB0 hlt hj hJ
          have HJN : Hid (Calls Tryz.prog 90 #[.slice x q y, .string { data := #[32] }] wr fun e w' => e = .returned (.string (zoneS (cl, gl))) ∧ Below wr.heap.size wr w') := HSR.out.join [32] (by omega) (by
            have h1 := HLJ.out; have h2 := HLP.out
            simp only [List.length_cons, List.length_nil] at h1
            omega)
          have HBW := Lib.hid (HB1.out.trans (HB.out.mono HB1.out.size))
          clear HSR HB
          go_wp2_with fail
          refine HJN.out.mono ?_
          rintro e w9 ⟨rfl, hb9⟩
          have HF := Lib.hid (HBW.out.trans (hb9.mono HBW.out.size))
          clear hb9
          go_wp2
          go_ret
          exact ⟨rfl, HF.out⟩

end Go.Proofs.YtkkoooagamadjaaGreatDoor

namespace Go.Proofs.YtkkoooagamadjaaGreatDoor
open Go.RowKit Go.Shelf
open Go.ChangeMaps (setBlock heap_setBlock_same heap_setBlock_other frozen?_setBlock)

theorem setBlock_grownU {w : World} {b : Nat} {es es' : Array MapEntry} {clock clock' : Nat} (hb : w.heap[b]? = some (.map es clock)) : w.grownBy (setBlock w b (.map es' clock')) (some b) :=
  ⟨rfl, rfl, rfl, by simp [setBlock], fun k _ hne => heap_setBlock_other hb _ (fun e => hne (by rw [e]))⟩

/-- between two rounds of Unique -/
structure UQ (w : World) (pre : List Zn) (v : Value) (es : Array MapEntry) (ck : Nat) (W : World) : Prop where
  own : ZOf w W v (uniqL pre)
  map : W.heap[w.heap.size]? = some (.map es ck)
  seen : SeenS es ck (pre.map zoneS)
  low : Below w.heap.size w W
theorem UQ.below {w W W' : World} {pre : List Zn} {v : Value} {es : Array MapEntry} {ck : Nat} (h : UQ w pre v es ck W) (hb : Below W.heap.size W W') : UQ w pre v es ck W' :=
  ⟨h.own.below hb, (hb.block _ (Array.getElem?_eq_some_iff.1 h.map).1).trans h.map, h.seen, h.low.trans (hb.mono h.low.size)⟩
theorem UQ.upd {w W : World} {pre : List Zn} {v : Value} {es : Array MapEntry} {ck : Nat} (h : UQ w pre v es ck W) (es2 : Array MapEntry) (ck2 : Nat) :
    ZOf w (setBlock W w.heap.size (.map es2 ck2)) v (uniqL pre) ∧ (setBlock W w.heap.size (.map es2 ck2)).heap[w.heap.size]? = some (.map es2 ck2) ∧ Below w.heap.size w (setBlock W w.heap.size (.map es2 ck2)) ∧ ∀ k, k ≠ w.heap.size → (setBlock W w.heap.size (.map es2 ck2)).heap[k]? = W.heap[k]? := by
  have hg := setBlock_grownU (es' := es2) (clock' := ck2) h.map
  obtain ⟨ps, hl, hr, hz⟩ := h.own
  have hne : v.ownBlock ≠ some w.heap.size := fun e => by
    rcases hr.2 with ⟨rfl, _⟩ | ⟨g, cap', cur, rfl, _, hgg, _⟩
    · simp [Value.ownBlock] at e
    · have e2 : g = w.heap.size := by simpa [Value.ownBlock] using e
      subst e2
      have := h.map
      rw [hgg] at this; cases this
  exact ⟨⟨ps, hl, hr.kept hg (.inr hne), hz⟩, heap_setBlock_same h.map _, h.low.grown hg h.low.size (fun k e => by cases e; exact Nat.le_refl _), fun k hk => heap_setBlock_other h.map _ hk⟩

theorem cnt_text (pre : List Zn) (z : Zn) : cntS (pre.map zoneS) (zoneS z) = 0 ↔ z ∉ pre := by
  rw [cntS_zero]
  constructor
  · exact fun h hz => h (List.mem_map.2 ⟨z, hz, rfl⟩)
  · intro h hz
    obtain ⟨y, hy, e⟩ := List.mem_map.1 hz
    rw [zoneS_inj e] at hy
    exact h hy

set_option maxRecDepth 100000 in
set_option maxHeartbeats 2000000 in
theorem unique_any {w : World} (ht : PTab w) {v0 : Value} {zs : List Zn} (h : ZIs w v0 zs) (hs : ∀ z ∈ zs, SmallZ z ∧ I64 z) (hl : zs.length ≤ 10000) :
    Calls Tryz.prog 22 #[v0] w fun e w' => ∃ v', e = .returned v' ∧ ZIs w' v' (uniqL zs) ∧ Below w.heap.size w w' := by
  obtain ⟨ad, cap, hv⟩ := h.len
  subst hv
  obtain ⟨n, hn⟩ : ∃ n, zs.length = n := ⟨_, rfl⟩
  have HN := Lib.hid hn; have HT := Lib.hid ht; have HS := Lib.hid hs
  have HL := Lib.hid h
  rw [hn] at HL hl ⊢
  have hmm := @run_makeMap Tryz.prog
  obtain ⟨W1, hW1⟩ : ∃ W1, w.alloc (.map #[] 0) = W1 := ⟨_, rfl⟩
  have hu0 : UQ w [] (.slice none 0 0) #[] 0 W1 := by
    rw [← hW1]
    exact ⟨ZOf.nil _ _, heap_alloc_new w _, SeenS.nil _, (Below.refl _ _).alloc (Nat.le_refl _) _⟩
  have HU0 := Lib.hid hu0
  clear hn ht hs h hu0
  go_enter Tryz.func22, Tryz.ntmps22
  go_wp2_with fail
  clear hmm hW1
  go_loopw [4, 11] (fun v i wr => ∃ (k : Nat) (x : Option Addr) (p y : Nat) (es : Array MapEntry) (ck : Nat), k ≤ n ∧ i = .int .i64 k ∧ v = .slice x p y ∧ Hid (UQ w (zs.take k) (.slice x p y) es ck wr)) (fun _ i _ => n - (intOf i).toNat)
  case atStart => exact ⟨0, none, 0, 0, #[], 0, Nat.zero_le _, rfl, rfl, by rw [List.take_zero]; exact HU0.out⟩
  case round =>
    clear HU0
    obtain ⟨k, x, p, y, es, ck, hk, rfl, rfl, HU⟩ := hrel
    by_cases hlt : k < n
    · have hkn : (k : Int) < (n : Int) := by omega
      have hk0 : (0 : Int) ≤ (k : Int) := by omega
      obtain ⟨z, hz⟩ : ∃ z, zs[k]? = some z := ⟨_, List.getElem?_eq_getElem (by rw [HN.out]; exact hlt)⟩
      obtain ⟨⟨s1, s2⟩, hzI⟩ := HS.out z (List.mem_of_getElem? hz)
      obtain ⟨g, off, c1, c2, had, -, -, d0, d1, -⟩ := (HL.out.below HU.out.low).at hz
      subst had
      obtain ⟨g', off', c1', c2', had, -, hgl, d0', d1', hzi⟩ := HL.out.at hz
      simp only [Option.some.injEq, Addr.mk.injEq, and_true] at had
      obtain ⟨rfl, rfl⟩ := had
      have e0 := HU.out.low.cell (p := ⟨g, off + k * 2, none⟩) hgl
      have e1 := HU.out.low.cell (p := ⟨g, off + k * 2 + 1, none⟩) hgl
      rw [d0, d0'] at e0; rw [d1, d1'] at e1
      cases e0; cases e1
      obtain ⟨a1, k1, hc1⟩ := hzi.1.1.len
      obtain ⟨a2, k2, hc2⟩ := hzi.1.2.len
      subst hc1; subst hc2
      have HZI := Lib.hid hzi
      obtain ⟨W5, hW5⟩ : ∃ W5, wr.alloc (.cells #[.slice a1 z.1.length k1, .slice a2 z.2.length k2] 28) = W5 := ⟨_, rfl⟩
      have hb5 : Below wr.heap.size wr W5 := by rw [← hW5]; exact (Below.refl _ _).alloc (Nat.le_refl _) _
      have x5 : Blk W5 wr.heap.size #[.slice a1 z.1.length k1, .slice a2 z.2.length k2] 28 := by rw [← hW5]; exact Blk.new _ _ _
      have HU5 := Lib.hid (HU.out.below hb5)
      have hMlt : w.heap.size < wr.heap.size := (Array.getElem?_eq_some_iff.1 HU.out.map).1
      have f0 := x5.two.1; have f1 := x5.two.2
      have HX5 := Lib.hid x5
      have HTX := Lib.hid (ztext_P (HT.out.keep HU5.out.low) (hzi.1.below HU5.out.low) s1 s2 hzI)
      have hokS : okS (zoneS z) := by have := zoneS_size z hzI s1 s2; unfold okS maxLen; omega
      obtain ⟨S, hS⟩ : ∃ S, zoneS z = S := ⟨_, rfl⟩
      rw [show zoneS (z.1, z.2) = S from hS] at HTX
      rw [hS] at hokS
      have HSS := Lib.hid hS; have HOK := Lib.hid hokS
      have HZK := Lib.hid hz
      clear hz hb5 x5 hS hokS s1 s2 hzI hzi HU d0' d1'
      go_wp2_with fail
      refine HTX.out.mono ?_
      rintro e W6 ⟨rfl, hb6⟩
      have HU6 := Lib.hid (HU5.out.below hb6)
      have HX6 := Lib.hid (HX5.out.keep hb6)
      clear hb6 f0 f1 d0 d1 HTX HU5 HX5 hW5
      obtain ⟨es2, ck2, k1', k2', k3', hS2⟩ := seenS_step (b := w.heap.size) HU6.out.seen HOK.out
      have r1 := k1' W6 HU6.out.map
      have r2 := k2' W6 HU6.out.map
      obtain ⟨o7, m7, l7, b7⟩ := HU6.out.upd es2 ck2
      have hx7 : Blk (setBlock W6 w.heap.size (.map es2 ck2)) wr.heap.size #[.slice a1 z.1.length k1, .slice a2 z.2.length k2] 28 := (b7 _ (by omega)).trans HX6.out
      obtain ⟨W7, hW7⟩ : ∃ W7, setBlock W6 w.heap.size (.map es2 ck2) = W7 := ⟨_, rfl⟩
      rw [hW7] at r2 o7 m7 l7 hx7
      have r3 := k3' W7 m7
      obtain ⟨q, hq⟩ : ∃ q, cntS ((zs.take k).map zoneS) S = q := ⟨_, rfl⟩
      rw [hq] at r1 r2 r3
      have hqle : q ≤ 10000 := by rw [← hq]; exact Nat.le_trans (cntS_le _ _) (by rw [List.length_map, List.length_take]; omega)
      have hwr : IntKind.i64.wrap ((q : Int) + 1) = (q : Int) + 1 := IntWalk.i64_in _ ⟨by omega, by omega⟩
      have g0 := hx7.two.1; have g1 := hx7.two.2
      have hpz : (zs.take k).length ≤ 10000 := by rw [List.length_take]; omega
      have hul := uniqL_len (zs.take k)
      have hplen : (uniqL (zs.take k)).length = p := by
        obtain ⟨a', b', e⟩ := o7.len
        simp only [Value.slice.injEq] at e
        exact e.2.1.symm
      have htk : zs.take (k + 1) = zs.take k ++ [z] := by rw [List.take_add_one, HZK.out]; rfl
      have HTK := Lib.hid htk
      have HS2 : Hid (SeenS es2 ck2 ((zs.take (k + 1)).map zoneS)) := by
        unfold Hid; rw [htk, List.map_append, List.map_singleton, HSS.out]; exact hS2
      have HQ : Hid (q = 0 ↔ z ∉ zs.take k) := by unfold Hid; rw [← hq, ← HSS.out]; exact cnt_text _ _
      have HO7 := Lib.hid o7; have HM7 := Lib.hid m7; have HL7 := Lib.hid l7; have HX7 := Lib.hid hx7
      clear k1' k2' k3' hS2 o7 m7 l7 b7 hx7 hW7 hq htk HX6 HU6
      by_cases hq0 : q = 0
      · have hqt : ((q : Int) + 1 == 1) = true := by simp; omega
        obtain ⟨x', y', W9, hrun, ho9, -, hb9, hm9⟩ := HO7.out.app HZI.out HL7.out (by omega) 30
        have HU9 : Hid (UQ w (zs.take (k + 1)) (.slice x' (p + 1) y') es2 ck2 W9) := by
          refine ⟨?_, hm9 _ _ _ HM7.out, HS2.out, hb9⟩
          have e : uniqL (zs.take (k + 1)) = uniqL (zs.take k) ++ [z] := by rw [HTK.out, uniqL_snoc, if_neg (HQ.out.1 hq0)]
          rw [e]
          rw [hplen] at ho9
          exact ho9
        rw [hplen] at hrun
        clear ho9 hb9 hm9 hq0 hul hpz hplen
        go_wp2_with (first | (at_builtin; refine wpList_append_known _ rfl _ _ _ _ rfl _ _ rfl rfl _ _ hrun ?_; clear hrun g0 g1 r1 r2 r3) | fail)
        go_roundw
        case rel => exact ⟨k + 1, x', p + 1, y', es2, ck2, by omega, by go_num, rfl, HU9⟩
        case measure => simp [intOf]; omega
      · have hqt : ((q : Int) + 1 == 1) = false := by simp; omega
        have HU9 : Hid (UQ w (zs.take (k + 1)) (.slice x p y) es2 ck2 W7) := by
          refine ⟨?_, HM7.out, HS2.out, HL7.out⟩
          have e : uniqL (zs.take (k + 1)) = uniqL (zs.take k) := by
            rw [HTK.out, uniqL_snoc, if_pos (Classical.not_not.1 fun h => hq0 (HQ.out.2 h))]
          rw [e]; exact HO7.out
        clear hq0 hul hpz hplen
        go_wp2_with fail
        go_roundw
        case rel => exact ⟨k + 1, x, p, y, es2, ck2, by omega, by go_num, rfl, HU9⟩
        case measure => simp [intOf]; omega
    · obtain rfl : k = n := by omega
      have hU := HU.out
      rw [List.take_of_length_le (by rw [HN.out]; exact Nat.le_refl _)] at hU
      have HF := Lib.hid (hU.own.zis hU.low)
      have HB := Lib.hid hU.low
      clear hU HU
      go_wp2
      go_ret
      exact ⟨_, rfl, HF.out, HB.out⟩

end Go.Proofs.YtkkoooagamadjaaGreatDoor
