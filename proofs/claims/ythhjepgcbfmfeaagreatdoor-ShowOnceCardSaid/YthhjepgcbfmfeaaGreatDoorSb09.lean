/- Contract of token's Tokens: the tokens of a text, or what is wrong first. Plain: places of tokens rise, only the last one is the end, and it alone has no text. -/
import Derived.Test.YthhjepgcbfmfeaaGreatDoorSb08

namespace Go.Proofs.YthhjepgcbfmfeaaGreatDoor
open Go.RowKit

theorem one_any {w : World} {B b : Nat} {s : ByteArray} {L : List Rn} {lv : Value} {i : Nat} {ov : Value} {T : List Tk} (h : Rd w B b s L lv i ov T) (hm : MaxCell w) (hB0 : 2 < B) (hB : B ≤ w.heap.size) (hO : RnOk s L) (hT : T.length ≤ 5000) (hs : s.size ≤ 4294967200) (hi : i < L.length) :
    Calls Tryz.prog 24 #[.pointer (some ⟨b, 0, none⟩)] w (Stepped w B b s L lv (oneT s L i T)) := by
  by_cases hb : blankB (rAt L i) = true
  · exact one_word h hm hB0 hB hO hT hs hi (fun e => by rw [hb] at e; cases e)
  · have hb : blankB (rAt L i) = false := by simpa using hb
    by_cases h35 : rAt L i = 35
    · exact one_word h hm hB0 hB hO hT hs hi (fun _ e => absurd h35 e)
    · by_cases hl : letterB (rAt L i) = true
      · exact one_word h hm hB0 hB hO hT hs hi (fun _ _ => hl)
      · have hl : letterB (rAt L i) = false := by simpa using hl
        by_cases hd : digitB (rAt L i) = true
        · exact one_num1 h hm hB0 hB hO hT hs hi hb h35 hl hd
        · have hd : digitB (rAt L i) = false := by simpa using hd
          by_cases h45 : rAt L i = 45
          · by_cases hd1 : digitB (rAt L (i + 1)) = true
            · exact one_num2 h hm hB0 hB hO hT hs hi hb h35 hl hd h45 hd1
            · exact one_sign1 h hm hB0 hB hO hT hs hi hb h35 hl hd h45 (by simpa using hd1)
          · exact one_sign2 h hm hB0 hB hO hT hs hi hb h35 hl hd h45

theorem tokT_on (s : ByteArray) (L : List Rn) (i : Nat) (T : List Tk) (hi : i < L.length) (he : (tokT s L i T).er = 0) : i < (tokT s L i T).i ∧ ∃ x, (tokT s L i T).T = T ++ [x] := by
  unfold tokT at he ⊢
  by_cases hl : letterB (rAt L i) = true
  · rw [if_pos hl] at he ⊢
    have hin : innerB (rAt L i) = true := by unfold innerB; rw [hl]; rfl
    have h1 := (row_facts (q := innerB) (by decide) hi hin).1
    exact ⟨by unfold wordT wordN; show i < i + _; omega, _, rfl⟩
  · rw [if_neg hl] at he ⊢
    by_cases hn : isNum L i = true
    · rw [if_pos hn]
      have h1 := (rowE_ge digitB L (i + 1)).1
      exact ⟨by unfold numbT numN; show i < i + _; omega, _, rfl⟩
    · rw [if_neg hn] at he ⊢
      unfold signT at he ⊢
      by_cases hs : signN (rAt L i) (rAt L (i + 1)) = 0
      · rw [if_pos hs] at he; simp at he
      · rw [if_neg hs]
        exact ⟨by show i < i + _; omega, _, rfl⟩

theorem oneT_on (s : ByteArray) (L : List Rn) (i : Nat) (T : List Tk) (hi : i < L.length) (hT : T.length ≤ 4096) (he : (oneT s L i T).er = 0) : i < (oneT s L i T).i ∧ (oneT s L i T).T.length ≤ 4096 := by
  unfold oneT at he ⊢
  by_cases hb : blankB (rAt L i) = true
  · rw [if_pos hb]; exact ⟨by show i < i + 1; omega, hT⟩
  · rw [if_neg hb] at he ⊢
    by_cases h35 : rAt L i = 35
    · rw [if_pos h35] at he ⊢
      have h1 := rowE_yes restB (by decide) L i (by rw [h35]; decide)
      have h2 := (rowE_ge restB L (i + 1)).1
      unfold restT at he ⊢
      split
      · rename_i h; rw [if_pos h] at he; simp at he
      · exact ⟨by show i < rowE restB L i; omega, hT⟩
    · rw [if_neg h35] at he ⊢
      unfold capT at he ⊢
      by_cases hr : (tokT s L i T).er ≠ 0
      · rw [if_pos hr] at he; exact absurd he hr
      · rw [if_neg hr] at he ⊢
        by_cases hc : 4096 < (tokT s L i T).T.length
        · rw [if_pos hc] at he; simp at he
        · rw [if_neg hc]
          exact ⟨(tokT_on s L i T hi (by omega)).1, by omega⟩

def endTk (s : ByteArray) : Tk := ⟨5, ⟨#[]⟩, 0, endL s, endC s⟩
/-- a text's tokens, or what is wrong -/
def tokRes (s : ByteArray) : Res :=
  if 16384 < (allR s).length then ⟨3, 0, 0, 0, []⟩
  else if (runT s (allR s) (allR s).length 0 []).er ≠ 0 then { runT s (allR s) (allR s).length 0 [] with T := [] }
  else ⟨0, 0, 0, 0, (runT s (allR s) (allR s).length 0 []).T ++ [endTk s]⟩

/-- what Tokens leaves -/
def TokPost (w : World) (s : ByteArray) (e : Ending) (w' : World) : Prop :=
  ∃ v, e = .returned (.tuple #[v, faultV (tokRes s).er (tokRes s).line (tokRes s).col]) ∧ w'.ownsRow w.heap.size 54 5 v (tokRes s).T.length (tkFlat (tokRes s).T) ∧ Below w.heap.size w w'

set_option maxHeartbeats 2000000 in
theorem tokens_long (s : ByteArray) (w : World) (hs : s.size ≤ 4294967200) (hl : 16384 < (allR s).length) :
    Calls Tryz.prog 13 #[.string s] w (TokPost w s) := by
  have HS : Hid (tokRes s = ⟨3, 0, 0, 0, []⟩) := by unfold Hid tokRes; rw [if_pos hl]
  go_enter Tryz.func13, Tryz.ntmps13
  go_wp2_with fail
  refine (textRunes_long s _ (by omega) hl).mono ?_
  rintro e w1 ⟨rfl, hb1⟩
  have hf1 := (FltAt.new w 0 0 0).below hb1 (by simp)
  obtain ⟨a0, a1, a2, a3, a4, a5⟩ := hf1.facts
  obtain ⟨e0, e1, e2, _, _, _⟩ := (hf1.stored 3 0 0).facts
  have HB1 := Lib.hid ((((((Below.refl w.heap.size w).alloc (Nat.le_refl _) _).trans (hb1.mono (by simp))).setCell (p := ⟨w.heap.size, 0, none⟩) (Nat.le_refl _) (.int .i64 3)).setCell (p := ⟨w.heap.size, 1, none⟩) (Nat.le_refl _) (.int .i64 0)).setCell (p := ⟨w.heap.size, 2, none⟩) (Nat.le_refl _) (.int .i64 0))
  clear hb1 hf1
  go_wp2
  exact bodyPost_ret (v := .tuple #[.slice none 0 0, .agg #[.int .i64 3, .int .i64 0, .int .i64 0]]) (by simp [results, Tryz.results13, go_sem, e0, e1, e2]) rfl ⟨_, by rw [HS.out]; rfl, by rw [HS.out]; exact World.ownsRow_nil _ _ _ _, HB1.out⟩

/-- what a round of Tokens leaves -/
structure TokRel (s : ByteArray) (w : World) (b : Nat) (lv : Value) (wr : World) (i : Nat) (ov : Value) (T : List Tk) (k : Nat) : Prop where
  rd : Rd wr (w.heap.size + 1) b s (allR s) lv i ov T
  low : Below (w.heap.size + 1) (w.alloc (.cells #[.int .i64 0, .int .i64 0, .int .i64 0] 31)) wr
  cap : T.length ≤ 4096
  fuel : (allR s).length - i ≤ k
  eq : runT s (allR s) (allR s).length 0 [] = runT s (allR s) k i T

theorem TokRel.step {s : ByteArray} {w : World} {b : Nat} {lv : Value} {wr w2 : World} {i : Nat} {ov ov2 : Value} {T : List Tk} {k : Nat} (h : TokRel s w b lv wr i ov T k) (hi : i < (allR s).length) (he : (oneT s (allR s) i T).er = 0)
    (hk : Took wr w2 (w.heap.size + 1) b s (allR s) lv (oneT s (allR s) i T).i ov2 (oneT s (allR s) i T).T) (o : Obj) :
    TokRel s w b lv (w2.alloc o) (oneT s (allR s) i T).i ov2 (oneT s (allR s) i T).T (k - 1) := by
  have h1 := oneT_on s (allR s) i T hi h.cap he
  have hf := h.fuel
  have hsz : w.heap.size + 1 ≤ wr.heap.size := by have := h.low.size; simpa using this
  refine ⟨(hk.then ((Below.refl _ _).alloc (Nat.le_refl _) o) hsz).rd, h.low.trans (hk.low.alloc (by have := hk.low.size; omega) o), h1.2, by omega, ?_⟩
  rw [h.eq]
  obtain ⟨q, rfl⟩ : ∃ q, k = q + 1 := ⟨k - 1, by omega⟩
  rw [runT, if_pos hi, if_neg (by omega)]
  rfl

theorem cell_kept {wr w2 w3 : World} {o : Obj} {row : Option Nat} {b j : Nat} {v : Value} (hg : (w2.alloc o).grownBy w3 row) (hb : Below wr.heap.size wr w2) (hlt : b < wr.heap.size) (hne : row ≠ some b) (h : wr.cell? ⟨b, j, none⟩ = some v) : w3.cell? ⟨b, j, none⟩ = some v := by
  have e : w3.heap[b]? = wr.heap[b]? := by
    have := hb.size
    rw [hg.block b (by simp; omega) (Ne.symm hne), Below.heap_alloc _ _ _ (by omega), hb.block b hlt]
  exact (World.cell?_of_block (a := ⟨b, j, none⟩) e).trans h
theorem flt_kept {wr w2 w3 : World} {o : Obj} {row : Option Nat} {b : Nat} {er l c : Int} (hg : (w2.alloc o).grownBy w3 row) (hb : Below wr.heap.size wr w2) (hlt : b < wr.heap.size) (hne : row ≠ some b) (h : FltAt wr b er l c) : FltAt w3 b er l c := by
  have := hb.size
  unfold FltAt at *
  rw [hg.block b (by simp; omega) (Ne.symm hne), Below.heap_alloc _ _ _ (by omega), hb.block b hlt]
  exact h

theorem own_stored {w : World} {base g n cap k : Nat} {xs : List Value} {er l c e' l' c' : Int} (h : w.ownsRow base 54 5 (.slice (some ⟨g, 0, none⟩) n cap) n xs) (hf : FltAt w k er l c) :
    (((w.setCell ⟨k, 0, none⟩ (.int .i64 e')).setCell ⟨k, 1, none⟩ (.int .i64 l')).setCell ⟨k, 2, none⟩ (.int .i64 c')).ownsRow base 54 5 (.slice (some ⟨g, 0, none⟩) n cap) n xs := by
  have h1 := heap_setCell_same w k 0 _ _ (.int .i64 e') hf
  have h2 := heap_setCell_same _ k 1 _ _ (.int .i64 l') h1
  exact owns_setCell (owns_setCell (owns_setCell h hf (by decide) _ _) h1 (by decide) _ _) h2 (by decide) _ _

set_option maxRecDepth 100000 in
set_option maxHeartbeats 4000000 in
theorem tokens_ok (s : ByteArray) (w : World) (hm : MaxCell w) (hs : s.size ≤ 4294967200) (hl : (allR s).length ≤ 16384) :
    Calls Tryz.prog 13 #[.string s] w (TokPost w s) := by
  have hO := Lib.hid (rnOk s hl)
  have HM := Lib.hid hm
  have HL : Hid ((allR s).length ≤ 16384) := hl
  have HZ : Hid (2 < w.heap.size) := by obtain ⟨m, hm⟩ := hm; exact World.block_lt_of_cell? w _ hm
  have HT : Hid (tokRes s = if (runT s (allR s) (allR s).length 0 []).er ≠ 0 then { runT s (allR s) (allR s).length 0 [] with T := [] } else ⟨0, 0, 0, 0, (runT s (allR s) (allR s).length 0 []).T ++ [endTk s]⟩) := by unfold Hid tokRes; rw [if_neg (by omega)]
  clear hm
  go_enter Tryz.func13, Tryz.ntmps13
  go_wp2_with fail
  refine (textRunes_ok s _ (by omega) hl).mono ?_
  rintro e w1 ⟨lv, rfl, hown, hb1⟩
  obtain ⟨ad, cap, hlv⟩ := owns_len hown
  subst hlv
  have hB1 : Below (w.heap.size + 1) (w.alloc (.cells #[.int .i64 0, .int .i64 0, .int .i64 0] 31)) w1 := by simpa using hb1
  have hsz1 : w.heap.size + 1 ≤ w1.heap.size := by have := hB1.size; simpa using this
  have H0 : Hid (TokRel s w w1.heap.size (.slice ad (allR s).length cap) (w1.alloc (.cells #[.string s, .slice ad (allR s).length cap, .int .i64 0, .slice none 0 0] 71)) 0 (.slice none 0 0) [] (allR s).length) := by
    refine ⟨⟨heap_alloc_new w1 _, hsz1, ?_, World.ownsRow_nil _ _ _ _⟩, hB1.alloc hsz1 _, by simp, by omega, rfl⟩
    have := World.ownsRow.alloc hown (.cells #[.string s, .slice ad (allR s).length cap, .int .i64 0, .slice none 0 0] 71)
    simpa using this
  clear hown hb1 hB1 
  go_wp2
  go_loopw [] (fun wr => ∃ (i k : Nat) (ov : Value) (T : List Tk), TokRel s w w1.heap.size (.slice ad (allR s).length cap) wr i ov T k) (fun wr => (allR s).length - placeOf wr w1.heap.size)
  case atStart => exact ⟨0, (allR s).length, _, [], H0.out⟩
  case round =>
    obtain ⟨i, k, ov, T, R⟩ := hrel
    clear H0
    have hszr : w.heap.size + 1 ≤ wr.heap.size := by have := R.low.size; simpa using this
    have HR := Lib.hid R
    obtain ⟨c0, c1, c2, c3, f2, f3⟩ := R.rd.facts
    have hF := (FltAt.new w 0 0 0).below R.low (Nat.lt_succ_self _)
    have HF := Lib.hid hF
    have hTl := R.cap
    have HMr := Lib.hid ((HM.out.below ((Below.refl _ w).alloc (Nat.le_refl _) (.cells #[.int .i64 0, .int .i64 0, .int .i64 0] 31)) HZ.out).below R.low (Nat.lt_succ_of_lt HZ.out))
    have hLl := HL.out
    clear R hF
    by_cases hlt : i < (allR s).length
    · have hiz : (i : Int) < ((allR s).length : Int) := by omega
      obtain ⟨⟨er, line, col, j, T2⟩, hr⟩ : ∃ r, oneT s (allR s) i T = r := ⟨_, rfl⟩
      have HRR := Lib.hid hr
      clear hr
      go_wp2_with fail
      refine (one_any HR.out.rd HMr.out (Nat.lt_succ_of_lt HZ.out) hszr hO.out (by omega) hs hlt).mono ?_
      rw [HRR.out]
      rintro e w2 ⟨rfl, ov2, hk⟩
      have hfr := HF.out.took hk (by omega)
      have HK := Lib.hid hk
      have HFR := Lib.hid hfr
      have hfl := hfr.lt
      clear hk hfr
      by_cases her : er = 0
      · subst her
        rw [faultV_ok]
        have HN := Lib.hid (HR.out.step (o := .cells #[.int .i64 0, .int .i64 0, .int .i64 0] 31) hlt (by rw [HRR.out]) (by rw [HRR.out]; exact HK.out))
        have hj : i < j := by have := (oneT_on s (allR s) i T hlt hTl (by rw [HRR.out])).1; rw [HRR.out] at this; exact this
        go_wp2
        go_roundw
        case rel => exact ⟨_, _, _, _, HN.out⟩
        case measure =>
          have p1 : placeOf (w2.alloc (.cells #[.int .i64 0, .int .i64 0, .int .i64 0] 31)) w1.heap.size = j := by have := HN.out.rd.place; rw [HRR.out] at this; exact this
          have p2 := HR.out.rd.place
          omega
      · rw [faultV_no her]
        have HTR : Hid (tokRes s = ⟨er, line, col, j, []⟩) := by
          unfold Hid
          have hq : runT s (allR s) (allR s).length 0 [] = ⟨er, line, col, j, T2⟩ := by
            rw [HR.out.eq]
            have hf := HR.out.fuel
            obtain ⟨q, rfl⟩ : ∃ q, k = q + 1 := ⟨k - 1, by omega⟩
            rw [runT, if_pos hlt, if_pos (by rw [HRR.out]; exact her), HRR.out]
          rw [HT.out, hq, if_pos her]
        have HER := Lib.hid her
        have hern : (er == 0) = false := beq_eq_false_iff_ne.2 her
        obtain ⟨a0, a1, a2, a3, a4, a5⟩ := HFR.out.facts
        obtain ⟨e0, e1, e2, _, _, _⟩ := ((HFR.out.stored er line col).alloc (.cells #[.int .i64 er, .int .i64 line, .int .i64 col] 31)).facts
        clear her
        go_wp2
        have HB6 := Lib.hid (((((((Below.refl w.heap.size w).alloc (Nat.le_refl _) (.cells #[.int .i64 0, .int .i64 0, .int .i64 0] 31)).trans (HR.out.low.mono (Nat.le_succ _))).trans (HK.out.low.mono (Nat.le_succ _))).setCell (p := ⟨w.heap.size, 0, none⟩) (Nat.le_refl _) (.int .i64 er)).setCell (p := ⟨w.heap.size, 1, none⟩) (Nat.le_refl _) (.int .i64 line)).setCell (p := ⟨w.heap.size, 2, none⟩) (Nat.le_refl _) (.int .i64 col))
        go_region
        all_goals go_wp2
        all_goals exact bodyPost_ret (v := .tuple #[.slice none 0 0, .agg #[.int .i64 er, .int .i64 line, .int .i64 col]]) (by simp [results, Tryz.results13, go_sem, e0, e1, e2]) rfl ⟨_, by rw [HTR.out]; show Ending.returned (.tuple #[_, _]) = Ending.returned (.tuple #[_, faultV er line col]); rw [faultV_no HER.out], by rw [HTR.out]; exact World.ownsRow_nil _ _ _ _, (HB6.out.alloc (by have := HK.out.low.size; simp; omega) _).drew⟩
    · have hiz : ((allR s).length : Int) ≤ (i : Int) := by omega
      have HTR : Hid (tokRes s = ⟨0, 0, 0, 0, T ++ [endTk s]⟩) := by
        unfold Hid
        have hq : runT s (allR s) (allR s).length 0 [] = ⟨0, 0, 0, i, T⟩ := by
          rw [HR.out.eq]
          cases k with
          | zero => rfl
          | succ q => rw [runT, if_neg hlt]
        rw [HT.out, hq]; rfl
      obtain ⟨i0, hi0, hz0, hz1, hz2⟩ := info_parts info_token
      have HIP := Lib.hid (And.intro hi0 (And.intro hz0 (And.intro hz1 hz2)))
      have HOWN := Lib.hid HR.out.rd.out
      have hbr := HR.out.rd.lt
      have HNE := Lib.hid (owns_ne_block HR.out.rd.out HR.out.rd.blk (by decide))
      have hwl : w.heap.size < wr.heap.size := by omega
      have HNW : Hid (ov.ownBlock ≠ some w.heap.size) := fun e => by have := (HR.out.rd.out.lt _ e).1; omega
      clear hi0 hz0 hz1 hz2
      go_wp2
      go_region_held3 (fun w' => w'.cell? ⟨w1.heap.size, 3, none⟩ = some ov)
        (first | go_keep | assumption | (rw [World.cell?_setCell_other _ _ _ _ (by first | (simp; done) | (simp; omega))]; rw [World.cell?_setCell_other _ _ _ _ (by first | (simp; done) | (simp; omega))]; rw [World.cell?_setCell_other _ _ _ _ (by first | (simp; done) | (simp; omega))]; assumption))
        (first
          | (go_at_call 25; refine (at_any s _ (by omega)).mono ?_; rintro e w2 ⟨rfl, hb2⟩; have q3 := (hb2.cell (p := ⟨w1.heap.size, 3, none⟩) hbr).trans c3; have HB2 := Lib.hid (((Below.refl wr.heap.size wr).drew).trans hb2); clear hb2)
          | (refine step_append_lies _ (by rfl) _ _ _ (by rfl) (w.heap.size + 1) 54 i0 _ 5 48 Tryz.underlying48 HIP.out.1 HIP.out.2.1 HIP.out.2.2.1 HIP.out.2.2.2 rfl (by omega) ov T.length (tkFlat T) (by rfl) (World.ownsRow.alloc (owns_below HOWN.out HB2.out) _) ⟨w2.heap.size, 0, none⟩ 1 1 [.int .i64 5, .string ⟨#[]⟩, .int .i64 0, .int .i64 (endL s), .int .i64 (endC s)] (by rfl) (by rfl) (World.news_of_block (cs := #[.int .i64 5, .string ⟨#[]⟩, .int .i64 0, .int .i64 (endL s), .int .i64 (endC s)]) (t := 54) (fr := (0, 0)) (heap_alloc_new w2 _)) (by simp [Value.oneCell']) (by omega) (by unfold maxLen; omega) (by omega) (by have := HB2.out.size; simp; omega) (w2.heap.size + 1) (by simp) ?_; intro g3 cap3 w3 hown3 hgrow hat hlt3; have p3 := cell_kept hgrow HB2.out hbr HNE.out c3; have hf3 := flt_kept hgrow HB2.out hwl HNW.out HF.out; obtain ⟨a0, a1, a2, a3, a4, a5⟩ := hf3.facts))
      all_goals
        have HF3 := Lib.hid hf3
        have HO3 := Lib.hid hown3
        have HB3 := Lib.hid (((((((Below.refl w.heap.size w).alloc (Nat.le_refl _) (.cells #[.int .i64 0, .int .i64 0, .int .i64 0] 31)).trans (HR.out.low.mono (Nat.le_succ _))).trans (HB2.out.mono (by omega))).alloc (by have := HB2.out.size; omega) (.cells #[.int .i64 5, .string ⟨#[]⟩, .int .i64 0, .int .i64 (endL s), .int .i64 (endC s)] 54)).grown hgrow (by have := HB2.out.size; simp; omega) (fun k e => by have := (HOWN.out.lt k e).1; omega)))
        obtain ⟨e0, e1, e2, _, _, _⟩ := (hf3.stored 0 0 0).facts
        clear hf3 hown3 hgrow hat p3
        go_wp2
        exact bodyPost_ret (v := .tuple #[.slice (some ⟨g3, 0, none⟩) (T.length + 1) cap3, .agg #[.int .i64 0, .int .i64 0, .int .i64 0]]) (by simp [results, Tryz.results13, go_sem, e0, e1, e2]) rfl
          ⟨_, by rw [HTR.out]; rfl, by
            rw [HTR.out]
            show World.ownsRow _ _ _ _ _ (T ++ [endTk s]).length (tkFlat (T ++ [endTk s]))
            rw [tkFlat_snoc, List.length_append, List.length_singleton]
            exact owns_mono (own_stored HO3.out HF3.out) (Nat.le_succ _), ((HB3.out.setCell (p := ⟨w.heap.size, 0, none⟩) (Nat.le_refl _) _).setCell (p := ⟨w.heap.size, 1, none⟩) (Nat.le_refl _) _).setCell (p := ⟨w.heap.size, 2, none⟩) (Nat.le_refl _) _⟩

theorem tokens_any (s : ByteArray) (w : World) (hm : MaxCell w) (hs : s.size ≤ 4294967200) :
    Calls Tryz.prog 13 #[.string s] w (TokPost w s) := by
  by_cases hl : 16384 < (allR s).length
  · exact tokens_long s w hs hl
  · exact tokens_ok s w hm hs (by omega)

end Go.Proofs.YthhjepgcbfmfeaaGreatDoor

namespace Go.Proofs.YthhjepgcbfmfeaaGreatDoor
open Go.RowKit

/-- a place ahead of another -/
def PLt (l c l' c' : Int) : Prop := l < l' ∨ (l = l' ∧ c < c')
theorem PLt.trans {a b c d e f : Int} (h : PLt a b c d) (h' : PLt c d e f) : PLt a b e f := by unfold PLt at *; omega

theorem next_lt (r line col : Int) : PLt line col (nextLine r line) (nextCol r col) := by
  unfold PLt nextLine nextCol; split <;> omega

theorem runesAt_low (g : Nat → Int) (s : ByteArray) (k p : Nat) (line col : Int) (x : Rn) (h : x ∈ runesAt g s k p line col) : (line = x.line ∧ col = x.col) ∨ PLt line col x.line x.col := by
  induction k generalizing p line col with
  | zero => simp [runesAt] at h
  | succ k ih =>
    simp only [runesAt] at h
    split at h
    · rcases List.mem_cons.1 h with rfl | h
      · exact .inl ⟨rfl, rfl⟩
      · refine .inr ?_
        rcases ih _ _ _ h with ⟨a, b⟩ | a
        · rw [← a, ← b]; exact next_lt _ _ _
        · exact (next_lt _ _ _).trans a
    · simp at h

theorem runesAt_rise (g : Nat → Int) (s : ByteArray) (k p : Nat) (line col : Int) : (runesAt g s k p line col).Pairwise (fun x y => PLt x.line x.col y.line y.col) := by
  induction k generalizing p line col with
  | zero => simp [runesAt]
  | succ k ih =>
    simp only [runesAt]
    split
    · refine List.pairwise_cons.2 ⟨fun y hy => ?_, ih _ _ _⟩
      rcases runesAt_low _ _ _ _ _ _ y hy with ⟨a, b⟩ | a
      · rw [← a, ← b]; exact next_lt _ _ _
      · exact (next_lt _ _ _).trans a
    · simp

theorem endAt_low (s : ByteArray) (k p : Nat) (line col : Int) : (line = (endAt s k p line col).1 ∧ col = (endAt s k p line col).2) ∨ PLt line col (endAt s k p line col).1 (endAt s k p line col).2 := by
  induction k generalizing p line col with
  | zero => exact .inl ⟨rfl, rfl⟩
  | succ k ih =>
    simp only [endAt]
    split
    · refine .inr ?_
      rcases ih (p + decN s p) (nextLine (decR s p) line) (nextCol (decR s p) col) with ⟨a, b⟩ | a
      · rw [← a, ← b]; exact next_lt _ _ _
      · exact (next_lt _ _ _).trans a
    · exact .inl ⟨rfl, rfl⟩

theorem runesAt_end (s : ByteArray) (k p : Nat) (line col : Int) (x : Rn) (h : x ∈ runesAt (decR s) s k p line col) : PLt x.line x.col (endAt s k p line col).1 (endAt s k p line col).2 := by
  induction k generalizing p line col with
  | zero => simp [runesAt] at h
  | succ k ih =>
    simp only [runesAt] at h
    simp only [endAt]
    split at h
    · rename_i hp
      rw [if_pos hp]
      rcases List.mem_cons.1 h with rfl | h
      · rcases endAt_low s k (p + decN s p) (nextLine (decR s p) line) (nextCol (decR s p) col) with ⟨a, b⟩ | a
        · show PLt line col _ _
          rw [← a, ← b]; exact next_lt _ _ _
        · exact (next_lt _ _ _).trans a
      · exact ih _ _ _ h
    · simp at h

theorem rune_lt {s : ByteArray} {i j : Nat} (hij : i < j) (hj : j < (allR s).length) : PLt (lineAt (allR s) i) (colAt (allR s) i) (lineAt (allR s) j) (colAt (allR s) j) := by
  have hi : i < (allR s).length := by omega
  have h := List.pairwise_iff_getElem.1 (runesAt_rise (decR s) s (s.size - 0) 0 1 1) i j hi hj hij
  have e1 := at_some (List.getElem?_eq_getElem hi)
  have e2 := at_some (List.getElem?_eq_getElem hj)
  rw [e1.2.2.2.1, e1.2.2.2.2, e2.2.2.2.1, e2.2.2.2.2]
  exact h
theorem rune_end {s : ByteArray} {i : Nat} (hi : i < (allR s).length) : PLt (lineAt (allR s) i) (colAt (allR s) i) (endL s) (endC s) := by
  have e1 := at_some (List.getElem?_eq_getElem hi)
  rw [e1.2.2.2.1, e1.2.2.2.2]
  exact runesAt_end s _ 0 1 1 _ (List.getElem_mem hi)

/-- what holds of the tokens that were taken up to a rune -/
structure Risen (s : ByteArray) (i : Nat) (T : List Tk) : Prop where
  rise : T.Pairwise (fun x y => PLt x.line x.col y.line y.col)
  low : ∀ x ∈ T, ∃ k, k < i ∧ k < (allR s).length ∧ x.line = lineAt (allR s) k ∧ x.col = colAt (allR s) k
  kind : ∀ x ∈ T, 1 ≤ x.kind ∧ x.kind ≤ 4
  text : ∀ x ∈ T, 0 < x.text.size

theorem Risen.snoc {s : ByteArray} {i j : Nat} {T : List Tk} (h : Risen s i T) (x : Tk) (hi : i < (allR s).length) (hij : i < j) (hl : x.line = lineAt (allR s) i) (hc : x.col = colAt (allR s) i) (hk : 1 ≤ x.kind ∧ x.kind ≤ 4) (ht : 0 < x.text.size) : Risen s j (T ++ [x]) := by
  refine ⟨List.pairwise_append.2 ⟨h.rise, List.pairwise_singleton _ _, ?_⟩, ?_, ?_, ?_⟩
  · intro y hy z hz
    rw [List.mem_singleton.1 hz, hl, hc]
    obtain ⟨k, hk1, hk2, e1, e2⟩ := h.low y hy
    rw [e1, e2]
    exact rune_lt hk1 hi
  · intro y hy
    rcases List.mem_append.1 hy with hy | hy
    · obtain ⟨k, a, b, c⟩ := h.low y hy; exact ⟨k, by omega, b, c⟩
    · rw [List.mem_singleton.1 hy]; exact ⟨i, hij, hi, hl, hc⟩
  · intro y hy
    rcases List.mem_append.1 hy with hy | hy
    · exact h.kind y hy
    · rw [List.mem_singleton.1 hy]; exact hk
  · intro y hy
    rcases List.mem_append.1 hy with hy | hy
    · exact h.text y hy
    · rw [List.mem_singleton.1 hy]; exact ht
theorem Risen.mono {s : ByteArray} {i j : Nat} {T : List Tk} (h : Risen s i T) (hij : i ≤ j) : Risen s j T :=
  ⟨h.rise, fun x hx => by obtain ⟨k, a, b⟩ := h.low x hx; exact ⟨k, by omega, b⟩, h.kind, h.text⟩

theorem sign_ascii {L : List Rn} {i : Nat} (hi : i < L.length) (hz : signN (rAt L i) (rAt L (i + 1)) ≠ 0) :
    (∀ k, k < signN (rAt L i) (rAt L (i + 1)) → 33 ≤ rAt L (i + k) ∧ rAt L (i + k) < 128) ∧ ∀ k, k < signN (rAt L i) (rAt L (i + 1)) → i + k < L.length := by
  unfold signN at hz ⊢
  by_cases hq : (rAt L i = 60 ∨ rAt L i = 62 ∨ rAt L i = 33) ∧ rAt L (i + 1) = 61
  · rw [if_pos hq]
    have hl : i + 1 < L.length := by
      by_cases hl : i + 1 < L.length
      · exact hl
      · rw [rAt_none (L := L) (i := i + 1) (by omega)] at hq; omega
    refine ⟨fun k hk => ?_, fun k hk => by omega⟩
    match k, hk with
    | 0, _ => rw [Nat.add_zero]; omega
    | 1, _ => omega
  · rw [if_neg hq] at hz ⊢
    split
    · rename_i h
      refine ⟨fun k hk => ?_, fun k hk => by omega⟩
      obtain rfl : k = 0 := by omega
      rw [Nat.add_zero]; omega
    · rename_i h; rw [if_neg h] at hz; exact absurd rfl hz

theorem word_text {s : ByteArray} {L : List Rn} {i : Nat} (hO : RnOk s L) (hi : i < L.length) (hl : letterB (rAt L i) = true) : (txt s L i (wordN L i)).size = wordN L i ∧ 1 ≤ wordN L i := by
  have hin : innerB (rAt L i) = true := by unfold innerB; rw [hl]; rfl
  obtain ⟨h1, h2, h3⟩ := row_facts (q := innerB) (by decide) hi hin
  exact ⟨hO.txtSize i (wordN L i) (fun k hk => inner_ascii (h3 k hk)) h2 h1, h1⟩

theorem tokT_risen {s : ByteArray} {i : Nat} {T : List Tk} (hO : RnOk s (allR s)) (h : Risen s i T) (hi : i < (allR s).length) (he : (tokT s (allR s) i T).er = 0) : Risen s (tokT s (allR s) i T).i (tokT s (allR s) i T).T := by
  have hon := tokT_on s (allR s) i T hi he
  unfold tokT at he hon ⊢
  by_cases hl : letterB (rAt (allR s) i) = true
  · rw [if_pos hl] at he hon ⊢
    have ht := word_text hO hi hl
    exact h.snoc _ hi hon.1 rfl rfl (by show 1 ≤ wordKind _ ∧ wordKind _ ≤ 4; unfold wordKind; split <;> omega) (by show 0 < (txt s (allR s) i (wordN (allR s) i)).size; omega)
  · rw [if_neg hl] at he hon ⊢
    by_cases hn : isNum (allR s) i = true
    · rw [if_pos hn] at he hon ⊢
      obtain ⟨_, _, h0, _⟩ := num_pre hO hi hn
      exact h.snoc _ hi hon.1 rfl rfl (by show (1 : Int) ≤ 3 ∧ (3 : Int) ≤ 4; omega) h0
    · rw [if_neg hn] at he hon ⊢
      unfold signT at he hon ⊢
      by_cases hs : signN (rAt (allR s) i) (rAt (allR s) (i + 1)) = 0
      · rw [if_pos hs] at he; simp at he
      · rw [if_neg hs] at hon ⊢
        obtain ⟨a, b⟩ := sign_ascii hi hs
        have := hO.txtSize i _ (fun k hk => by have := a k hk; omega) b (by omega)
        exact h.snoc _ hi hon.1 rfl rfl (by show (1 : Int) ≤ 4 ∧ (4 : Int) ≤ 4; omega) (by show 0 < (txt s (allR s) i (signN (rAt (allR s) i) (rAt (allR s) (i + 1)))).size; omega)

theorem oneT_risen {s : ByteArray} {i : Nat} {T : List Tk} (hO : RnOk s (allR s)) (h : Risen s i T) (hT : T.length ≤ 4096) (hi : i < (allR s).length) (he : (oneT s (allR s) i T).er = 0) : Risen s (oneT s (allR s) i T).i (oneT s (allR s) i T).T := by
  have hon := oneT_on s (allR s) i T hi hT he
  unfold oneT at he hon ⊢
  by_cases hb : blankB (rAt (allR s) i) = true
  · rw [if_pos hb]; exact h.mono (by show i ≤ i + 1; omega)
  · rw [if_neg hb] at he hon ⊢
    by_cases h35 : rAt (allR s) i = 35
    · rw [if_pos h35] at he hon ⊢
      unfold restT at he hon ⊢
      split
      · rename_i hq; rw [if_pos hq] at he; simp at he
      · rename_i hq; rw [if_neg hq] at hon; exact h.mono (by show i ≤ rowE restB (allR s) i; have := hon.1; simp only at this; omega)
    · rw [if_neg h35] at he hon ⊢
      unfold capT at he hon ⊢
      by_cases hr : (tokT s (allR s) i T).er ≠ 0
      · rw [if_pos hr] at he; exact absurd he hr
      · rw [if_neg hr] at he hon ⊢
        by_cases hc : 4096 < (tokT s (allR s) i T).T.length
        · rw [if_pos hc] at he; simp at he
        · rw [if_neg hc]
          exact tokT_risen hO h hi (by omega)

theorem runT_risen {s : ByteArray} (hO : RnOk s (allR s)) (k i : Nat) (T : List Tk) (h : Risen s i T) (hT : T.length ≤ 4096) (he : (runT s (allR s) k i T).er = 0) : ∃ j, Risen s j (runT s (allR s) k i T).T ∧ (runT s (allR s) k i T).T.length ≤ 4096 := by
  induction k generalizing i T with
  | zero => exact ⟨i, h, hT⟩
  | succ k ih =>
    rw [runT] at he ⊢
    by_cases hi : i < (allR s).length
    · rw [if_pos hi] at he ⊢
      by_cases h1 : (oneT s (allR s) i T).er ≠ 0
      · rw [if_pos h1] at he; exact absurd he h1
      · rw [if_neg h1] at he ⊢
        exact ih _ _ (oneT_risen hO h hT hi (by omega)) (oneT_on s (allR s) i T hi hT (by omega)).2 he
    · rw [if_neg hi]; exact ⟨i, h, hT⟩

/-- what a text's tokens are like -/
theorem tokRes_rises (s : ByteArray) (he : (tokRes s).er = 0) : ∃ R, (tokRes s).T = R ++ [endTk s] ∧ R.length ≤ 4096 ∧ (R ++ [endTk s]).Pairwise (fun x y => PLt x.line x.col y.line y.col) ∧ (∀ x ∈ R, 1 ≤ x.kind ∧ x.kind ≤ 4) ∧ ∀ x ∈ R, 0 < x.text.size := by
  unfold tokRes at he ⊢
  by_cases hl : 16384 < (allR s).length
  · rw [if_pos hl] at he; simp at he
  · rw [if_neg hl] at he ⊢
    by_cases h1 : (runT s (allR s) (allR s).length 0 []).er ≠ 0
    · rw [if_pos h1] at he; exact absurd he h1
    · rw [if_neg h1]
      obtain ⟨j, h, hlen⟩ := runT_risen (rnOk s (by omega)) (allR s).length 0 [] ⟨List.Pairwise.nil, by simp, by simp, by simp⟩ (by simp) (by omega)
      refine ⟨_, rfl, hlen, List.pairwise_append.2 ⟨h.rise, List.pairwise_singleton _ _, ?_⟩, h.kind, h.text⟩
      intro x hx y hy
      rw [List.mem_singleton.1 hy]
      obtain ⟨k, _, hk, e1, e2⟩ := h.low x hx
      rw [e1, e2]
      exact rune_end hk

theorem tokRes_bad (s : ByteArray) (he : (tokRes s).er ≠ 0) : (tokRes s).T = [] := by
  unfold tokRes at he ⊢
  by_cases hl : 16384 < (allR s).length
  · rw [if_pos hl]
  · rw [if_neg hl] at he ⊢
    by_cases h1 : (runT s (allR s) (allR s).length 0 []).er ≠ 0
    · rw [if_pos h1]
    · rw [if_neg h1] at he; simp at he

end Go.Proofs.YthhjepgcbfmfeaaGreatDoor
