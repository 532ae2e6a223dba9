/- A text's tokens end (the plain part of XCondW). A statement ends behind where it begins; rows of statements. -/
import Derived.Test.YthlofmnmacpogaaGreatDoorDe06
import Derived.Test.YthlofmnmacpogaaGreatDoorDe08
import Derived.Test.YthlofmnmacpogaaGreatDoorDf09
import Derived.Test.YthlofmnmacpogaaGreatDoorDf08

namespace Go.Proofs.YthlofmnmacpogaaGreatDoor
open Go.RowKit

theorem runT_capD (s : ByteArray) (L : List Rn) : ∀ (k i : Nat) (T : List Tk), T.length ≤ 4096 → (runT s L k i T).er = 0 → (runT s L k i T).T.length ≤ 4096
  | 0, i, T, hT, _ => hT
  | k + 1, i, T, hT, he => by
    rw [runT] at he ⊢
    split
    · rename_i hi
      rw [if_pos hi] at he
      split
      · rename_i h; rw [if_pos h] at he; exact absurd he h
      · rename_i h
        rw [if_neg h] at he
        exact runT_capD s L k _ _ (oneT_on s L i T hi hT (by omega)).2 he
    · exact hT

/-- tokens of a text that is right: the last one is the end -/
theorem tokRes_endD (s : ByteArray) (h : (tokRes s).er = 0) : ∃ X, (tokRes s).T = X ++ [endTk s] ∧ X.length ≤ 4096 := by
  unfold tokRes at h ⊢
  split
  · rename_i h1; rw [if_pos h1] at h; simp at h
  · rename_i h1
    rw [if_neg h1] at h
    split
    · rename_i h2; rw [if_pos h2] at h; exact absurd h h2
    · rename_i h2
      exact ⟨_, rfl, runT_capD _ _ _ _ _ (by simp) (by omega)⟩

/-- what Whole says -/
theorem tkIn_ownsD {w : World} {base B : Nat} {v : Value} {T : List Tk} (h : w.ownsRow base 48 5 v T.length (tkFlat T)) (hB : w.heap.size ≤ B) (hT : T.length ≤ 1000000) : TkIn w B v T := by
  rcases h.2 with ⟨rfl, h0⟩ | ⟨g, cap, cur, rfl, hb, hg, _⟩
  · exact ⟨none, 0, by rw [h0], hT, .inl (List.length_eq_zero_iff.1 h0)⟩
  · have hlt := (Array.getElem?_eq_some_iff.1 hg).1
    refine ⟨_, cap, rfl, hT, .inr ⟨g, 0, rfl, by omega, hlt, fun k x hx => ?_⟩⟩
    have hk := (List.getElem?_eq_some_iff.1 hx).1
    have cell : ∀ j, j < 5 → w.cell? ⟨g, 0 + k * 5 + j, none⟩ = (tkCells x)[j]? := fun j hj => by
      rw [Nat.zero_add, World.ownsRow.cellAt h (k * 5 + j) (by omega), tkFlat_get T k j x hx hj]
    exact ⟨cell 0 (by omega), cell 1 (by omega), cell 2 (by omega), cell 3 (by omega), cell 4 (by omega)⟩


end Go.Proofs.YthlofmnmacpogaaGreatDoor

namespace Go.Proofs.YthlofmnmacpogaaGreatDoor
open Go.RowKit

theorem up_attr (T : List Tk) (r : RS) : r.i ≤ (attrD T r).i := by
  have h1 := take_up T 1 r
  have h2 := need_up T 4 sEq (setName (nameV T r) (nameD T r))
  have h3 := take_up T 3 (needD T 4 sEq (setName (nameV T r) (nameD T r)))
  exact Int.le_trans h1 (Int.le_trans h2 h3)
theorem up_user (T : List Tk) (r : RS) : r.i ≤ (userD T r).i := take_up T 1 r
theorem up_more (T : List Tk) (r : RS) : r.i ≤ (moreD T r).i := take_up T 1 r
theorem up_roleL (T : List Tk) : ∀ (k : Nat) (r : RS), r.i ≤ (roleL T k r).i
  | 0, _ => Int.le_refl _
  | k + 1, r => by
    rw [roleL]
    split
    · exact Int.le_trans (up_more T r) (up_roleL T k _)
    · exact Int.le_refl _
theorem up_role (T : List Tk) (r : RS) : r.i ≤ (roleD T r).i :=
  Int.le_trans (take_up T 1 r) (Int.le_trans (need_up T 4 sEq (setName (nameV T r) (nameD T r))) (Int.le_trans (up_more T _) (up_roleL T _ _)))
theorem up_stage (T : List Tk) (r : RS) : r.i ≤ (stageD T r).i := by
  have h1 : r.i ≤ (setName (nameV T r) (nameD T r)).i := take_up T 1 r
  unfold stageD
  dsimp only
  split
  · exact Int.le_trans h1 (Int.le_trans (may_up T 2 wIn _) (take_up T 1 _))
  · exact h1
theorem up_times (T : List Tk) (r : RS) : r.i ≤ (timesD T r).i := by
  unfold timesD
  dsimp only
  split
  · exact Int.le_trans (Int.le_of_eq (failD_i T 11 r).1.symm) (take_up T 3 (failD T 11 r))
  · exact take_up T 3 r
theorem up_setsL (T : List Tk) : ∀ (k : Nat) (r : RS), r.i ≤ (setsL T k r).i
  | 0, _ => Int.le_refl _
  | k + 1, r => by
    rw [setsL]
    split
    · exact Int.le_trans (may_up T 4 sComma r) (Int.le_trans (up_more T _) (up_setsL T k _))
    · exact Int.le_refl _
theorem up_event (T : List Tk) (r : RS) : r.i ≤ (eventD T r).i := by
  have h5 : r.i ≤ (evHead T r).i := by
    obtain ⟨r1, e1⟩ : ∃ q, setName (nameV T r) (nameD T r) = q := ⟨_, rfl⟩
    have u1 : r.i ≤ r1.i := by rw [← e1]; exact take_up T 1 r
    obtain ⟨r2, e2⟩ : ∃ q, needD T 2 wBy r1 = q := ⟨_, rfl⟩
    have u2 : r1.i ≤ r2.i := by rw [← e2]; exact need_up T 2 wBy r1
    obtain ⟨r3, e3⟩ : ∃ q, setRole (nameV T r2) (nameD T r2) = q := ⟨_, rfl⟩
    have u3 : r2.i ≤ r3.i := by rw [← e3]; exact take_up T 1 r2
    obtain ⟨r4, e4⟩ : ∃ q, needD T 2 wIn r3 = q := ⟨_, rfl⟩
    have u4 : r3.i ≤ r4.i := by rw [← e4]; exact need_up T 2 wIn r3
    have u5 : r4.i ≤ (setStage (nameV T r4) (nameD T r4)).i := take_up T 1 r4
    have e : evHead T r = setStage (nameV T r4) (nameD T r4) := by simp only [evHead, e1, e2, e3, e4]
    rw [e]; omega
  have h6 : (evHead T r).i ≤ (evSets T (evHead T r)).i := by
    unfold evSets
    split
    · exact Int.le_trans (may_up T 2 wSets _) (Int.le_trans (up_more T _) (up_setsL T _ _))
    · exact Int.le_refl _
  rw [event_is]
  unfold evMax
  split
  · exact Int.le_trans h5 (Int.le_trans h6 (Int.le_trans (may_up T 2 wMax _) (up_times T _)))
  · exact Int.le_trans h5 h6
theorem up_on (T : List Tk) (r : RS) : r.i ≤ (onD T r).i := by
  unfold onD
  split
  · exact Int.le_trans (may_up T 2 wOn r) (take_up T 1 _)
  · exact Int.le_refl _
theorem up_if (T : List Tk) (r : RS) : r.i ≤ (ifD T r).i := by
  unfold ifD
  cases hp : readP T false r.i with
  | ok o a => exact Int.le_of_lt (readD_in hp).2.1
  | bad e l c => exact Int.le_refl _
theorem up_sentry (T : List Tk) (r : RS) : r.i ≤ (sentryD T r).i := by
  unfold sentryD
  split
  · exact Int.le_trans (up_on T r) (Int.le_trans (may_up T 2 wIf _) (up_if T _))
  · exact up_on T r
theorem up_guard (T : List Tk) (r : RS) : r.i ≤ (guardD T r).i :=
  Int.le_trans (show r.i ≤ (setStage (nameV T r) (nameD T r)).i from take_up T 1 r) (up_sentry T _)
theorem up_mile (T : List Tk) (r : RS) : r.i ≤ (mileD T r).i := by
  obtain ⟨r1, e1⟩ : ∃ q, setName (nameV T r) (nameD T r) = q := ⟨_, rfl⟩
  have u1 : r.i ≤ r1.i := by rw [← e1]; exact take_up T 1 r
  obtain ⟨r2, e2⟩ : ∃ q, needD T 2 wOf r1 = q := ⟨_, rfl⟩
  have u2 : r1.i ≤ r2.i := by rw [← e2]; exact need_up T 2 wOf r1
  obtain ⟨r3, e3⟩ : ∃ q, setStage (nameV T r2) (nameD T r2) = q := ⟨_, rfl⟩
  have u3 : r2.i ≤ r3.i := by rw [← e3]; exact take_up T 1 r2
  obtain ⟨r4, e4⟩ : ∃ q, sentryD T r3 = q := ⟨_, rfl⟩
  have u4 : r3.i ≤ r4.i := by rw [← e4]; exact up_sentry T r3
  have u5 : r4.i ≤ (setFinal (mayB T 2 wFinal r4) (mayD T 2 wFinal r4)).i := may_up T 2 wFinal r4
  have e : mileD T r = setFinal (mayB T 2 wFinal r4) (mayD T 2 wFinal r4) := by simp only [mileD, e1, e2, e3, e4]
  rw [e]; omega
theorem up_sod (T : List Tk) (r : RS) : r.i ≤ (sodD T r).i :=
  Int.le_trans (take_up T 1 r) (Int.le_trans (need_up T 4 sComma (nameD T r)) (take_up T 1 _))
theorem up_rule (T : List Tk) (k : Int) (r : RS) : r.i ≤ (ruleD T k r).i := by
  unfold ruleD
  split
  · exact up_attr T r
  split
  · exact up_user T r
  split
  · exact up_role T r
  split
  · exact up_stage T r
  split
  · exact up_event T r
  split
  · exact up_guard T r
  split
  · exact up_mile T r
  · exact up_sod T r

theorem failD_no {T : List Tk} {r : RS} : (failD T 4 r).er ≠ 0 := failD_er T (by decide) r
theorem oneD_ok {T : List Tk} {i : Int} {x : St} {a : Int} (h : oneD T i = .ok x a) : 0 ≤ i ∧ i + 2 ≤ a ∧ a < T.length + 1 ∧ (tkAt T (a - 1)).kind ≠ 5 := by
  unfold oneD at h
  split at h
  · cases h
  · rename_i hn
    have hin : 0 ≤ i ∧ i < (T.length : Int) := tk_in (fun e => hn (.inl (by rw [e]; decide)))
    obtain ⟨r, hr⟩ : ∃ r, ruleD T (kindN (tkAt T i).text) (startD T i) = r := ⟨_, rfl⟩
    have hup : i + 1 ≤ r.i := by have := up_rule T (kindN (tkAt T i).text) (startD T i); rw [hr] at this; exact this
    dsimp only at h
    rw [hr] at h
    split at h
    · rename_i he
      injection h with _ ha
      unfold needD at he ha
      split at ha
      · rename_i hm
        have hk := isTk_in (mayB_is hm).2 (by decide)
        have hkk := (mayB_is hm).2
        unfold isTk at hkk
        simp only [Bool.and_eq_true, decide_eq_true_eq] at hkk
        have ha' : r.i + 1 = a := ha
        refine ⟨hin.1, by omega, by omega, ?_⟩
        rw [show a - 1 = r.i by omega, hkk.1]
        decide
      · rename_i hm
        rw [if_neg hm] at he
        exact absurd he failD_no
    · cases h
theorem oneD_bad {T : List Tk} {i : Int} {e l c : Int} (h : oneD T i = .bad e l c) : e ≠ 0 := by
  unfold oneD at h
  split at h
  · injection h with h1 h2 h3; omega
  · dsimp only at h
    split at h
    · cases h
    · rename_i hn
      injection h with h1 h2 h3
      rw [← h1]; exact hn

/-! ### rows of statements -/

abbrev Sv := St × Value × Value
def svCells (e : Sv) : List Value := [.int .i64 e.1.kind, .string e.1.name, .int .i64 e.1.line, .int .i64 e.1.col, .int .i64 e.1.init, e.2.1, .string e.1.role, .string e.1.stage, .string e.1.event, .int .i64 e.1.times, e.2.2, .bool e.1.final]
def svFlat (l : List Sv) : List Value := (l.map svCells).flatten
theorem svFlat_snoc (l : List Sv) (e : Sv) : svFlat (l ++ [e]) = svFlat l ++ svCells e := by simp [svFlat]
structure StRow (w : World) (B : Nat) (v : Value) (l : List Sv) : Prop where
  row : w.ownsRow B 37 12 v l.length (svFlat l)
  nm : ∀ e ∈ l, w.ownsRow B 9 1 e.2.1 e.1.names.length (strV e.1.names)
  it : ∀ e ∈ l, w.ownsRow B 87 9 e.2.2 e.1.ifs.length (itFlat e.1.ifs)
theorem StRow.nil (w : World) (B : Nat) : StRow w B (.slice none 0 0) [] :=
  ⟨World.ownsRow_nil _ _ _ _, fun e h => by simp at h, fun e h => by simp at h⟩
theorem StRow.below {w w' : World} {B : Nat} {v : Value} {l : List Sv} (h : StRow w B v l) (hb : Below w.heap.size w w') : StRow w' B v l :=
  ⟨owns_below h.row hb, fun e he => owns_below (h.nm e he) hb, fun e he => owns_below (h.it e he) hb⟩
theorem StRow.drew {w : World} {B : Nat} {v : Value} {l : List Sv} (h : StRow w B v l) : StRow w.drew B v l :=
  ⟨h.row.drew, fun e he => (h.nm e he).drew, fun e he => (h.it e he).drew⟩
theorem StRow.fault {w : World} {B b : Nat} {v : Value} {l : List Sv} {e l0 c : Int} (h : StRow w B v l) (hf : FtB w b e l0 c) (e2 l2 c2 : Int) : StRow (((w.setCell ⟨b, 0, none⟩ (.int .i64 e2)).setCell ⟨b, 1, none⟩ (.int .i64 l2)).setCell ⟨b, 2, none⟩ (.int .i64 c2)) B v l :=
  ⟨hf.row h.row (by decide) e2 l2 c2, fun e he => hf.row (h.nm e he) (by decide) e2 l2 c2, fun e he => hf.row (h.it e he) (by decide) e2 l2 c2⟩
/-- one statement more -/
theorem StRow.put {w w' : World} {B : Nat} {v v' : Value} {l : List Sv} {x : Sv} (h : StRow w B v l) (hg : w.grownBy w' v.ownBlock) (hown : w'.ownsRow B 37 12 v' (l.length + 1) (svFlat l ++ svCells x))
    (hn : w.ownsRow B 9 1 x.2.1 x.1.names.length (strV x.1.names)) (hi : w.ownsRow B 87 9 x.2.2 x.1.ifs.length (itFlat x.1.ifs)) : StRow w' B v' (l ++ [x]) := by
  refine ⟨by rw [svFlat_snoc, List.length_append, List.length_singleton]; exact hown, fun e he => ?_, fun e he => ?_⟩
  · rcases List.mem_append.1 he with h1 | h1
    · exact owns_beside h.row (h.nm e h1) (by decide) hg
    · obtain rfl : e = x := by simpa using h1
      exact owns_beside h.row hn (by decide) hg
  · rcases List.mem_append.1 he with h1 | h1
    · exact owns_beside h.row (h.it e h1) (by decide) hg
    · obtain rfl : e = x := by simpa using h1
      exact owns_beside h.row hi (by decide) hg

/-- what Read says of a text -/
def readD (s : ByteArray) : SR :=
  if (tokRes s).er ≠ 0 then .bad (tokRes s).er (tokRes s).line (tokRes s).col else readS (tokRes s).T (tokRes s).T.length 0 []
/-- what Read leaves -/
def DReadPost (w : World) (p : SR) (e : Ending) (w' : World) : Prop :=
  match p with
  | .ok L => ∃ (l : List Sv) (v : Value), l.map (·.1) = L ∧ e = .returned (.tuple #[v, .agg #[.int .i64 0, .int .i64 0, .int .i64 0]]) ∧ StRow w' w.heap.size v l ∧ Below w.heap.size w w'
  | .bad er l c => e = .returned (.tuple #[.slice none 0 0, .agg #[.int .i64 er, .int .i64 l, .int .i64 c]]) ∧ Below w.heap.size w w'

end Go.Proofs.YthlofmnmacpogaaGreatDoor
