/- Contract of token's Tokens: the tokens of a text, or what is wrong first. -/
import Derived.Test.YthlofmnmacpogaaGreatDoorDe21

namespace Go.Proofs.YthlofmnmacpogaaGreatDoor
open Go.RowKit

theorem one_any {w : World} {B b : Nat} {s : ByteArray} {L : List Rn} {lv : Value} {i : Nat} {ov : Value} {T : List Tk} (h : Rd w B b s L lv i ov T) (hm : MaxCell w) (hB0 : 0 < B) (hB : B ≤ w.heap.size) (hO : RnOk s L) (hT : T.length ≤ 5000) (hs : s.size ≤ 4294967200) (hi : i < L.length) :
    Calls Tryz.prog 30 #[.pointer (some ⟨b, 0, none⟩)] w (Stepped w B b s L lv (oneT s L i T)) := by
  by_cases hb : blankB (rAt L i) = true
  · exact one_word h hm hB0 hB hO hT hs hi (fun e => by rw [hb] at e; cases e)
  · have hb : blankB (rAt L i) = false := by simpa using hb
    by_cases h35 : rAt L i = 35
    · exact one_word h hm hB0 hB hO hT hs hi (fun _ e => absurd h35 e)
    · by_cases hl : letterB (rAt L i) = true
      · exact one_word h hm hB0 hB hO hT hs hi (fun _ _ => hl)
      · have hl : letterB (rAt L i) = false := by simpa using hl
        by_cases hd : digitB (rAt L i) = true
        · exact one_num1 h hm hB0 hB hO hT hs hi hb h35 hl hd
        · have hd : digitB (rAt L i) = false := by simpa using hd
          by_cases h45 : rAt L i = 45
          · by_cases hd1 : digitB (rAt L (i + 1)) = true
            · exact one_num2 h hm hB0 hB hO hT hs hi hb h35 hl hd h45 hd1
            · exact one_sign1 h hm hB0 hB hO hT hs hi hb h35 hl hd h45 (by simpa using hd1)
          · exact one_sign2 h hm hB0 hB hO hT hs hi hb h35 hl hd h45

theorem tokT_on (s : ByteArray) (L : List Rn) (i : Nat) (T : List Tk) (hi : i < L.length) (he : (tokT s L i T).er = 0) : i < (tokT s L i T).i ∧ ∃ x, (tokT s L i T).T = T ++ [x] := by
  unfold tokT at he ⊢
  by_cases hl : letterB (rAt L i) = true
  · rw [if_pos hl] at he ⊢
    have hin : innerB (rAt L i) = true := by unfold innerB; rw [hl]; rfl
    have h1 := (row_facts (q := innerB) (by decide) hi hin).1
    exact ⟨by unfold wordT wordN; show i < i + _; omega, _, rfl⟩
  · rw [if_neg hl] at he ⊢
    by_cases hn : isNum L i = true
    · rw [if_pos hn]
      have h1 := (rowE_ge digitB L (i + 1)).1
      exact ⟨by unfold numbT numN; show i < i + _; omega, _, rfl⟩
    · rw [if_neg hn] at he ⊢
      unfold signT at he ⊢
      by_cases hs : signN (rAt L i) (rAt L (i + 1)) = 0
      · rw [if_pos hs] at he; simp at he
      · rw [if_neg hs]
        exact ⟨by show i < i + _; omega, _, rfl⟩

theorem oneT_on (s : ByteArray) (L : List Rn) (i : Nat) (T : List Tk) (hi : i < L.length) (hT : T.length ≤ 4096) (he : (oneT s L i T).er = 0) : i < (oneT s L i T).i ∧ (oneT s L i T).T.length ≤ 4096 := by
  unfold oneT at he ⊢
  by_cases hb : blankB (rAt L i) = true
  · rw [if_pos hb]; exact ⟨by show i < i + 1; omega, hT⟩
  · rw [if_neg hb] at he ⊢
    by_cases h35 : rAt L i = 35
    · rw [if_pos h35] at he ⊢
      have h1 := rowE_yes restB (by decide) L i (by rw [h35]; decide)
      have h2 := (rowE_ge restB L (i + 1)).1
      unfold restT at he ⊢
      split
      · rename_i h; rw [if_pos h] at he; simp at he
      · exact ⟨by show i < rowE restB L i; omega, hT⟩
    · rw [if_neg h35] at he ⊢
      unfold capT at he ⊢
      by_cases hr : (tokT s L i T).er ≠ 0
      · rw [if_pos hr] at he; exact absurd he hr
      · rw [if_neg hr] at he ⊢
        by_cases hc : 4096 < (tokT s L i T).T.length
        · rw [if_pos hc] at he; simp at he
        · rw [if_neg hc]
          exact ⟨(tokT_on s L i T hi (by omega)).1, by omega⟩

def endTk (s : ByteArray) : Tk := ⟨5, ⟨#[]⟩, 0, endL s, endC s⟩
/-- a text's tokens, or what is wrong -/
def tokRes (s : ByteArray) : Res :=
  if 16384 < (allR s).length then ⟨3, 0, 0, 0, []⟩
  else if (runT s (allR s) (allR s).length 0 []).er ≠ 0 then { runT s (allR s) (allR s).length 0 [] with T := [] }
  else ⟨0, 0, 0, 0, (runT s (allR s) (allR s).length 0 []).T ++ [endTk s]⟩

/-- what Tokens leaves -/
def TokPost (w : World) (s : ByteArray) (e : Ending) (w' : World) : Prop :=
  ∃ v, e = .returned (.tuple #[v, faultV (tokRes s).er (tokRes s).line (tokRes s).col]) ∧ w'.ownsRow w.heap.size 48 5 v (tokRes s).T.length (tkFlat (tokRes s).T) ∧ Below w.heap.size w w'

set_option maxHeartbeats 2000000 in
theorem tokens_long (s : ByteArray) (w : World) (hs : s.size ≤ 4294967200) (hl : 16384 < (allR s).length) :
    Calls Tryz.prog 13 #[.string s] w (TokPost w s) := by
  have HS : Hid (tokRes s = ⟨3, 0, 0, 0, []⟩) := by unfold Hid tokRes; rw [if_pos hl]
  go_enter Tryz.func13, Tryz.ntmps13
  go_wp2_with fail
  refine (textRunes_long s _ (by omega) hl).mono ?_
  rintro e w1 ⟨rfl, hb1⟩
  have hf1 := (FltAt.new w 0 0 0).below hb1 (by simp)
  obtain ⟨a0, a1, a2, a3, a4, a5⟩ := hf1.facts
  obtain ⟨e0, e1, e2, _, _, _⟩ := (hf1.stored 3 0 0).facts
  have HB1 := Lib.hid ((((((Below.refl w.heap.size w).alloc (Nat.le_refl _) _).trans (hb1.mono (by simp))).setCell (p := ⟨w.heap.size, 0, none⟩) (Nat.le_refl _) (.int .i64 3)).setCell (p := ⟨w.heap.size, 1, none⟩) (Nat.le_refl _) (.int .i64 0)).setCell (p := ⟨w.heap.size, 2, none⟩) (Nat.le_refl _) (.int .i64 0))
  clear hb1 hf1
  go_wp2
  exact bodyPost_ret (v := .tuple #[.slice none 0 0, .agg #[.int .i64 3, .int .i64 0, .int .i64 0]]) (by simp [results, Tryz.results13, go_sem, e0, e1, e2]) rfl ⟨_, by rw [HS.out]; rfl, by rw [HS.out]; exact World.ownsRow_nil _ _ _ _, HB1.out⟩

/-- what a round of Tokens leaves -/
structure TokRel (s : ByteArray) (w : World) (b : Nat) (lv : Value) (wr : World) (i : Nat) (ov : Value) (T : List Tk) (k : Nat) : Prop where
  rd : Rd wr (w.heap.size + 1) b s (allR s) lv i ov T
  low : Below (w.heap.size + 1) (w.alloc (.cells #[.int .i64 0, .int .i64 0, .int .i64 0] 28)) wr
  cap : T.length ≤ 4096
  fuel : (allR s).length - i ≤ k
  eq : runT s (allR s) (allR s).length 0 [] = runT s (allR s) k i T

theorem TokRel.step {s : ByteArray} {w : World} {b : Nat} {lv : Value} {wr w2 : World} {i : Nat} {ov ov2 : Value} {T : List Tk} {k : Nat} (h : TokRel s w b lv wr i ov T k) (hi : i < (allR s).length) (he : (oneT s (allR s) i T).er = 0)
    (hk : Took wr w2 (w.heap.size + 1) b s (allR s) lv (oneT s (allR s) i T).i ov2 (oneT s (allR s) i T).T) (o : Obj) :
    TokRel s w b lv (w2.alloc o) (oneT s (allR s) i T).i ov2 (oneT s (allR s) i T).T (k - 1) := by
  have h1 := oneT_on s (allR s) i T hi h.cap he
  have hf := h.fuel
  have hsz : w.heap.size + 1 ≤ wr.heap.size := by have := h.low.size; simpa using this
  refine ⟨(hk.then ((Below.refl _ _).alloc (Nat.le_refl _) o) hsz).rd, h.low.trans (hk.low.alloc (by have := hk.low.size; omega) o), h1.2, by omega, ?_⟩
  rw [h.eq]
  obtain ⟨q, rfl⟩ : ∃ q, k = q + 1 := ⟨k - 1, by omega⟩
  rw [runT, if_pos hi, if_neg (by omega)]
  rfl

theorem cell_kept {wr w2 w3 : World} {o : Obj} {row : Option Nat} {b j : Nat} {v : Value} (hg : (w2.alloc o).grownBy w3 row) (hb : Below wr.heap.size wr w2) (hlt : b < wr.heap.size) (hne : row ≠ some b) (h : wr.cell? ⟨b, j, none⟩ = some v) : w3.cell? ⟨b, j, none⟩ = some v := by
  have e : w3.heap[b]? = wr.heap[b]? := by
    have := hb.size
    rw [hg.block b (by simp; omega) (Ne.symm hne), Below.heap_alloc _ _ _ (by omega), hb.block b hlt]
  exact (World.cell?_of_block (a := ⟨b, j, none⟩) e).trans h
theorem flt_kept {wr w2 w3 : World} {o : Obj} {row : Option Nat} {b : Nat} {er l c : Int} (hg : (w2.alloc o).grownBy w3 row) (hb : Below wr.heap.size wr w2) (hlt : b < wr.heap.size) (hne : row ≠ some b) (h : FltAt wr b er l c) : FltAt w3 b er l c := by
  have := hb.size
  unfold FltAt at *
  rw [hg.block b (by simp; omega) (Ne.symm hne), Below.heap_alloc _ _ _ (by omega), hb.block b hlt]
  exact h

theorem own_stored {w : World} {base g n cap k : Nat} {xs : List Value} {er l c e' l' c' : Int} (h : w.ownsRow base 48 5 (.slice (some ⟨g, 0, none⟩) n cap) n xs) (hf : FltAt w k er l c) :
    (((w.setCell ⟨k, 0, none⟩ (.int .i64 e')).setCell ⟨k, 1, none⟩ (.int .i64 l')).setCell ⟨k, 2, none⟩ (.int .i64 c')).ownsRow base 48 5 (.slice (some ⟨g, 0, none⟩) n cap) n xs := by
  have h1 := heap_setCell_same w k 0 _ _ (.int .i64 e') hf
  have h2 := heap_setCell_same _ k 1 _ _ (.int .i64 l') h1
  exact owns_setCell (owns_setCell (owns_setCell h hf (by decide) _ _) h1 (by decide) _ _) h2 (by decide) _ _

set_option maxRecDepth 100000 in
set_option maxHeartbeats 4000000 in
theorem tokens_ok (s : ByteArray) (w : World) (hm : MaxCell w) (hs : s.size ≤ 4294967200) (hl : (allR s).length ≤ 16384) :
    Calls Tryz.prog 13 #[.string s] w (TokPost w s) := by
  have hO := Lib.hid (rnOk s hl)
  have HM := Lib.hid hm
  have HL : Hid ((allR s).length ≤ 16384) := hl
  have HZ : Hid (0 < w.heap.size) := by obtain ⟨m, hm⟩ := hm; exact World.block_lt_of_cell? w _ hm
  have HT : Hid (tokRes s = if (runT s (allR s) (allR s).length 0 []).er ≠ 0 then { runT s (allR s) (allR s).length 0 [] with T := [] } else ⟨0, 0, 0, 0, (runT s (allR s) (allR s).length 0 []).T ++ [endTk s]⟩) := by unfold Hid tokRes; rw [if_neg (by omega)]
  clear hm
  go_enter Tryz.func13, Tryz.ntmps13
  go_wp2_with fail
  refine (textRunes_ok s _ (by omega) hl).mono ?_
  rintro e w1 ⟨lv, rfl, hown, hb1⟩
  obtain ⟨ad, cap, hlv⟩ := owns_len hown
  subst hlv
  have hB1 : Below (w.heap.size + 1) (w.alloc (.cells #[.int .i64 0, .int .i64 0, .int .i64 0] 28)) w1 := by simpa using hb1
  have hsz1 : w.heap.size + 1 ≤ w1.heap.size := by have := hB1.size; simpa using this
  have H0 : Hid (TokRel s w w1.heap.size (.slice ad (allR s).length cap) (w1.alloc (.cells #[.string s, .slice ad (allR s).length cap, .int .i64 0, .slice none 0 0] 72)) 0 (.slice none 0 0) [] (allR s).length) := by
    refine ⟨⟨heap_alloc_new w1 _, hsz1, ?_, World.ownsRow_nil _ _ _ _⟩, hB1.alloc hsz1 _, by simp, by omega, rfl⟩
    have := World.ownsRow.alloc hown (.cells #[.string s, .slice ad (allR s).length cap, .int .i64 0, .slice none 0 0] 72)
    simpa using this
  clear hown hb1 hB1 
  go_wp2
  go_loopw [] (fun wr => ∃ (i k : Nat) (ov : Value) (T : List Tk), TokRel s w w1.heap.size (.slice ad (allR s).length cap) wr i ov T k) (fun wr => (allR s).length - placeOf wr w1.heap.size)
  case atStart => exact ⟨0, (allR s).length, _, [], H0.out⟩
  case round =>
    obtain ⟨i, k, ov, T, R⟩ := hrel
    clear H0
    have hszr : w.heap.size + 1 ≤ wr.heap.size := by have := R.low.size; simpa using this
    have HR := Lib.hid R
    obtain ⟨c0, c1, c2, c3, f2, f3⟩ := R.rd.facts
    have hF := (FltAt.new w 0 0 0).below R.low (Nat.lt_succ_self _)
    have HF := Lib.hid hF
    have hTl := R.cap
    have HMr := Lib.hid ((HM.out.below ((Below.refl _ w).alloc (Nat.le_refl _) (.cells #[.int .i64 0, .int .i64 0, .int .i64 0] 28)) HZ.out).below R.low (Nat.succ_pos _))
    have hLl := HL.out
    clear R hF
    by_cases hlt : i < (allR s).length
    · have hiz : (i : Int) < ((allR s).length : Int) := by omega
      obtain ⟨⟨er, line, col, j, T2⟩, hr⟩ : ∃ r, oneT s (allR s) i T = r := ⟨_, rfl⟩
      have HRR := Lib.hid hr
      clear hr
      go_wp2_with fail
      refine (one_any HR.out.rd HMr.out (Nat.succ_pos _) hszr hO.out (by omega) hs hlt).mono ?_
      rw [HRR.out]
      rintro e w2 ⟨rfl, ov2, hk⟩
      have hfr := HF.out.took hk (by omega)
      have HK := Lib.hid hk
      have HFR := Lib.hid hfr
      have hfl := hfr.lt
      clear hk hfr
      by_cases her : er = 0
      · subst her
        rw [faultV_ok]
        have HN := Lib.hid (HR.out.step (o := .cells #[.int .i64 0, .int .i64 0, .int .i64 0] 28) hlt (by rw [HRR.out]) (by rw [HRR.out]; exact HK.out))
        have hj : i < j := by have := (oneT_on s (allR s) i T hlt hTl (by rw [HRR.out])).1; rw [HRR.out] at this; exact this
        go_wp2
        go_roundw
        case rel => exact ⟨_, _, _, _, HN.out⟩
        case measure =>
          have p1 : placeOf (w2.alloc (.cells #[.int .i64 0, .int .i64 0, .int .i64 0] 28)) w1.heap.size = j := by have := HN.out.rd.place; rw [HRR.out] at this; exact this
          have p2 := HR.out.rd.place
          omega
      · rw [faultV_no her]
        have HTR : Hid (tokRes s = ⟨er, line, col, j, []⟩) := by
          unfold Hid
          have hq : runT s (allR s) (allR s).length 0 [] = ⟨er, line, col, j, T2⟩ := by
            rw [HR.out.eq]
            have hf := HR.out.fuel
            obtain ⟨q, rfl⟩ : ∃ q, k = q + 1 := ⟨k - 1, by omega⟩
            rw [runT, if_pos hlt, if_pos (by rw [HRR.out]; exact her), HRR.out]
          rw [HT.out, hq, if_pos her]
        have HER := Lib.hid her
        have hern : (er == 0) = false := beq_eq_false_iff_ne.2 her
        obtain ⟨a0, a1, a2, a3, a4, a5⟩ := HFR.out.facts
        obtain ⟨e0, e1, e2, _, _, _⟩ := ((HFR.out.stored er line col).alloc (.cells #[.int .i64 er, .int .i64 line, .int .i64 col] 28)).facts
        clear her
        go_wp2
        have HB6 := Lib.hid (((((((Below.refl w.heap.size w).alloc (Nat.le_refl _) (.cells #[.int .i64 0, .int .i64 0, .int .i64 0] 28)).trans (HR.out.low.mono (Nat.le_succ _))).trans (HK.out.low.mono (Nat.le_succ _))).setCell (p := ⟨w.heap.size, 0, none⟩) (Nat.le_refl _) (.int .i64 er)).setCell (p := ⟨w.heap.size, 1, none⟩) (Nat.le_refl _) (.int .i64 line)).setCell (p := ⟨w.heap.size, 2, none⟩) (Nat.le_refl _) (.int .i64 col))
        go_region
        all_goals go_wp2
        all_goals exact bodyPost_ret (v := .tuple #[.slice none 0 0, .agg #[.int .i64 er, .int .i64 line, .int .i64 col]]) (by simp [results, Tryz.results13, go_sem, e0, e1, e2]) rfl ⟨_, by rw [HTR.out]; show Ending.returned (.tuple #[_, _]) = Ending.returned (.tuple #[_, faultV er line col]); rw [faultV_no HER.out], by rw [HTR.out]; exact World.ownsRow_nil _ _ _ _, (HB6.out.alloc (by have := HK.out.low.size; simp; omega) _).drew⟩
    · have hiz : ((allR s).length : Int) ≤ (i : Int) := by omega
      have HTR : Hid (tokRes s = ⟨0, 0, 0, 0, T ++ [endTk s]⟩) := by
        unfold Hid
        have hq : runT s (allR s) (allR s).length 0 [] = ⟨0, 0, 0, i, T⟩ := by
          rw [HR.out.eq]
          cases k with
          | zero => rfl
          | succ q => rw [runT, if_neg hlt]
        rw [HT.out, hq]; rfl
      obtain ⟨i0, hi0, hz0, hz1, hz2⟩ := info_parts info_token
      have HIP := Lib.hid (And.intro hi0 (And.intro hz0 (And.intro hz1 hz2)))
      have HOWN := Lib.hid HR.out.rd.out
      have hbr := HR.out.rd.lt
      have HNE := Lib.hid (owns_ne_block HR.out.rd.out HR.out.rd.blk (by decide))
      have hwl : w.heap.size < wr.heap.size := by omega
      have HNW : Hid (ov.ownBlock ≠ some w.heap.size) := fun e => by have := (HR.out.rd.out.lt _ e).1; omega
      clear hi0 hz0 hz1 hz2
      go_wp2
      go_region_held3 (fun w' => w'.cell? ⟨w1.heap.size, 3, none⟩ = some ov)
        (first | go_keep | assumption | (rw [World.cell?_setCell_other _ _ _ _ (by first | (simp; done) | (simp; omega))]; rw [World.cell?_setCell_other _ _ _ _ (by first | (simp; done) | (simp; omega))]; rw [World.cell?_setCell_other _ _ _ _ (by first | (simp; done) | (simp; omega))]; assumption))
        (first
          | (go_at_call 31; refine (at_any s _ (by omega)).mono ?_; rintro e w2 ⟨rfl, hb2⟩; have q3 := (hb2.cell (p := ⟨w1.heap.size, 3, none⟩) hbr).trans c3; have HB2 := Lib.hid (((Below.refl wr.heap.size wr).drew).trans hb2); clear hb2)
          | (refine step_append_lies _ (by rfl) _ _ _ (by rfl) (w.heap.size + 1) 48 i0 _ 5 48 Tryz.underlying33 HIP.out.1 HIP.out.2.1 HIP.out.2.2.1 HIP.out.2.2.2 rfl (by omega) ov T.length (tkFlat T) (by rfl) (World.ownsRow.alloc (owns_below HOWN.out HB2.out) _) ⟨w2.heap.size, 0, none⟩ 1 1 [.int .i64 5, .string ⟨#[]⟩, .int .i64 0, .int .i64 (endL s), .int .i64 (endC s)] (by rfl) (by rfl) (World.news_of_block (cs := #[.int .i64 5, .string ⟨#[]⟩, .int .i64 0, .int .i64 (endL s), .int .i64 (endC s)]) (t := 48) (fr := (0, 0)) (heap_alloc_new w2 _)) (by simp [Value.oneCell']) (by omega) (by unfold maxLen; omega) (by omega) (by have := HB2.out.size; simp; omega) (w2.heap.size + 1) (by simp) ?_; intro g3 cap3 w3 hown3 hgrow hat hlt3; have p3 := cell_kept hgrow HB2.out hbr HNE.out c3; have hf3 := flt_kept hgrow HB2.out hwl HNW.out HF.out; obtain ⟨a0, a1, a2, a3, a4, a5⟩ := hf3.facts))
      all_goals
        have HF3 := Lib.hid hf3
        have HO3 := Lib.hid hown3
        have HB3 := Lib.hid (((((((Below.refl w.heap.size w).alloc (Nat.le_refl _) (.cells #[.int .i64 0, .int .i64 0, .int .i64 0] 28)).trans (HR.out.low.mono (Nat.le_succ _))).trans (HB2.out.mono (by omega))).alloc (by have := HB2.out.size; omega) (.cells #[.int .i64 5, .string ⟨#[]⟩, .int .i64 0, .int .i64 (endL s), .int .i64 (endC s)] 48)).grown hgrow (by have := HB2.out.size; simp; omega) (fun k e => by have := (HOWN.out.lt k e).1; omega)))
        obtain ⟨e0, e1, e2, _, _, _⟩ := (hf3.stored 0 0 0).facts
        clear hf3 hown3 hgrow hat p3
        go_wp2
        exact bodyPost_ret (v := .tuple #[.slice (some ⟨g3, 0, none⟩) (T.length + 1) cap3, .agg #[.int .i64 0, .int .i64 0, .int .i64 0]]) (by simp [results, Tryz.results13, go_sem, e0, e1, e2]) rfl
          ⟨_, by rw [HTR.out]; rfl, by
            rw [HTR.out]
            show World.ownsRow _ _ _ _ _ (T ++ [endTk s]).length (tkFlat (T ++ [endTk s]))
            rw [tkFlat_snoc, List.length_append, List.length_singleton]
            exact owns_mono (own_stored HO3.out HF3.out) (Nat.le_succ _), ((HB3.out.setCell (p := ⟨w.heap.size, 0, none⟩) (Nat.le_refl _) _).setCell (p := ⟨w.heap.size, 1, none⟩) (Nat.le_refl _) _).setCell (p := ⟨w.heap.size, 2, none⟩) (Nat.le_refl _) _⟩

theorem tokens_any (s : ByteArray) (w : World) (hm : MaxCell w) (hs : s.size ≤ 4294967200) :
    Calls Tryz.prog 13 #[.string s] w (TokPost w s) := by
  by_cases hl : 16384 < (allR s).length
  · exact tokens_long s w hs hl
  · exact tokens_ok s w hm hs (by omega)

end Go.Proofs.YthlofmnmacpogaaGreatDoor
