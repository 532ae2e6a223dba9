/- Plain: states, rights, sentries, steps, runs; no program in sight. Plain: a list of whatever, shrunk as long as something holds; what stands in a list in its order. Small lemmas on rows and stores beside them: of any program. (Light: no text of the tokens is wanted.) A block of cells of whatever shape: what it holds, and that it stays. -/
import Derived.Test.YtadjnfpomjopkaaGreatSm04
import Derived.Test.YtadjnfpomjopkaaGreatSm02
import Derived.Lib.OthersKept
import Derived.Deep.RegionHeld3
import Derived.Deep.AppendLies
import Derived.Deep.RegionLaw
import Derived.BigRegion

namespace Go.Proofs.YtadjnfpomjopkaaGreat
open Go.RowKit

def inM (n : Int) (m : Nat) : Bool := decide (0 ≤ n) && decide (n < (m : Int))
theorem inM_iff {n : Int} {m : Nat} : inM n m = true ↔ 0 ≤ n ∧ n < (m : Int) := by unfold inM; simp
theorem inM_nat {n : Int} {m : Nat} (h : inM n m = true) : ∃ k : Nat, n = (k : Int) ∧ k < m := by
  obtain ⟨h0, h1⟩ := inM_iff.1 h
  exact ⟨n.toNat, by omega, by omega⟩
def evG (M : Mdl) (i : Nat) : Ev := M.events.getD i ⟨⟨#[]⟩, 0, 0, [], 0⟩
def gdG (M : Mdl) (i : Nat) : Gd := M.guards.getD i ⟨0, 0, []⟩
def mlG (M : Mdl) (i : Nat) : Ml := M.miles.getD i ⟨⟨#[]⟩, 0, 0, [], false⟩
def stgP (M : Mdl) (i : Nat) : Int := (M.stages.getD i (⟨#[]⟩, 0)).2
def rolU (M : Mdl) (i : Nat) : Int := (M.roles.getD i (⟨#[]⟩, 0)).2
theorem getD_of {α : Type} {l : List α} {i : Nat} {a : α} (d : α) (h : l[i]? = some a) : l.getD i d = a := by rw [List.getD_eq_getElem?_getD, h]; rfl
theorem evG_of {M : Mdl} {i : Nat} {a : Ev} (h : M.events[i]? = some a) : evG M i = a := getD_of _ h
theorem gdG_of {M : Mdl} {i : Nat} {a : Gd} (h : M.guards[i]? = some a) : gdG M i = a := getD_of _ h
theorem mlG_of {M : Mdl} {i : Nat} {a : Ml} (h : M.miles[i]? = some a) : mlG M i = a := getD_of _ h
theorem stgP_of {M : Mdl} {i : Nat} {a : ByteArray × Int} (h : M.stages[i]? = some a) : stgP M i = a.2 := by unfold stgP; rw [getD_of _ h]
theorem rolU_of {M : Mdl} {i : Nat} {a : ByteArray × Int} (h : M.roles[i]? = some a) : rolU M i = a.2 := by unfold rolU; rw [getD_of _ h]

/-! any, all of so many -/
theorem anyR_succ (f : Nat → Bool) (k : Nat) : (List.range (k + 1)).any f = ((List.range k).any f || f k) := by simp [List.range_succ, List.any_append]
theorem anyR_hit {f : Nat → Bool} {k n : Nat} (hk : k < n) (h : f k = true) : (List.range n).any f = true := List.any_eq_true.2 ⟨k, List.mem_range.2 hk, h⟩
theorem anyR_miss {f : Nat → Bool} {k : Nat} (h0 : (List.range k).any f = false) (h : f k = false) : (List.range (k + 1)).any f = false := by rw [anyR_succ, h0, h]; rfl
theorem allR_succ (f : Nat → Bool) (k : Nat) : (List.range (k + 1)).all f = ((List.range k).all f && f k) := by simp [List.range_succ, List.all_append]
theorem allR_back {f : Nat → Bool} {k n : Nat} (hk : k < n) (h : f k = false) : (List.range n).all f = false := by
  cases e : (List.range n).all f
  · rfl
  · have := List.all_eq_true.1 e k (List.mem_range.2 hk)
    rw [h] at this; cases this
theorem allR_next {f : Nat → Bool} {k : Nat} (h0 : (List.range k).all f = true) (h : f k = true) : (List.range (k + 1)).all f = true := by rw [allR_succ, h0, h]; rfl

/-! states -/
def startS (M : Mdl) : Sta := ⟨M.inits, 0, 0, List.replicate M.events.length 0, List.replicate M.events.length 0⟩
def ofN (s : Int) (n : Nat) : Bool := decide (0 ≤ s) && decide (s ≤ firstZ n)
def chkE (M : Mdl) (s : Sta) (i : Nat) : Bool := ofN (s.did.getD i 0) M.users.length && decide (0 ≤ s.cnt.getD i 0) && decide (s.cnt.getD i 0 ≤ (evG M i).times)
def chkL (M : Mdl) (s : Sta) : Bool := decide (s.vals.length = M.attrs.length) && decide (s.did.length = M.events.length) && decide (s.cnt.length = M.events.length)
def chkS (M : Mdl) (s : Sta) : Bool := chkL M s && (ofN s.opn M.stages.length && ofN s.dne M.miles.length) && (List.range M.events.length).all (chkE M s)
/-- by the numbers one by one -/
def withinN (s : Int) (n : Nat) : Bool := (List.range 31).all (fun i => !(decide (n ≤ i) && hasN s i)) && (decide (0 ≤ s) && decide (s ≤ 2147483647))
theorem hasN_lo {s : Int} (h0 : 0 ≤ s) (h1 : s ≤ 2147483647) {j : Nat} (hj : j < 31) : hasN s j = s.toNat.testBit j := by
  have h := lo_bit s j hj
  unfold lo at h
  rw [← h]
  congr 1
  omega
theorem within_of (s : Int) (n : Nat) : withinN s n = ofN s n := by
  by_cases hs : 0 ≤ s ∧ s ≤ 2147483647
  · obtain ⟨h0, h1⟩ := hs
    unfold withinN ofN
    rw [decide_eq_true h0, decide_eq_true h1, Bool.true_and, Bool.true_and, Bool.and_true]
    obtain ⟨t, rfl⟩ : ∃ t : Nat, s = (t : Int) := ⟨s.toNat, by omega⟩
    have ht : t < 2 ^ 31 := by omega
    have hc : clamp (n : Int) = min n 31 := by unfold clamp; omega
    have hf : firstZ (n : Int) = ((2 ^ (min n 31) - 1 : Nat) : Int) := by unfold firstZ; rw [hc]
    have hpos : 0 < 2 ^ (min n 31) := Nat.two_pow_pos _
    rw [hf]
    by_cases hle : t < 2 ^ (min n 31)
    · rw [decide_eq_true (by omega)]
      rw [List.all_eq_true]
      intro j hj
      have hj' := List.mem_range.1 hj
      by_cases hnj : n ≤ j
      · have : hasN (t : Int) j = false := by
          rw [hasN_lo h0 h1 hj', Int.toNat_natCast]
          refine Nat.testBit_lt_two_pow (Nat.lt_of_lt_of_le hle (Nat.pow_le_pow_right (by decide) (by omega)))
        rw [this]; simp
      · rw [decide_eq_false hnj]; rfl
    · rw [decide_eq_false (by omega)]
      obtain ⟨j, hj1, hj2⟩ := Nat.exists_ge_and_testBit_of_ge_two_pow (Nat.le_of_not_lt hle)
      have hj31 : j < 31 := by
        rcases Nat.lt_or_ge j 31 with q | q
        · exact q
        · have := Nat.testBit_lt_two_pow (Nat.lt_of_lt_of_le ht (Nat.pow_le_pow_right (by decide) q) : t < 2 ^ j)
          rw [hj2] at this; cases this
      refine allR_back hj31 ?_
      rw [hasN_lo h0 h1 hj31, Int.toNat_natCast, hj2, decide_eq_true (by omega)]; rfl
  · have e1 : withinN s n = false := by
      unfold withinN
      have : (decide (0 ≤ s) && decide (s ≤ 2147483647)) = false := by
        cases e : (decide (0 ≤ s) && decide (s ≤ 2147483647))
        · rfl
        · simp only [Bool.and_eq_true, decide_eq_true_eq] at e; exact absurd e hs
      rw [this, Bool.and_false]
    have e2 : ofN s n = false := by
      unfold ofN
      have hb : firstZ n ≤ 2147483647 := by
        have := clamp_le (n : Int)
        have h2 : 2 ^ clamp (n : Int) ≤ 2 ^ 31 := Nat.pow_le_pow_right (by decide) this
        unfold firstZ
        omega
      cases e : (decide (0 ≤ s) && decide (s ≤ firstZ ↑n))
      · rfl
      · simp only [Bool.and_eq_true, decide_eq_true_eq] at e
        exact absurd ⟨e.1, by omega⟩ hs
    rw [e1, e2]

/-! rights -/
def cmpF (M : Mdl) (s : Sta) (i : Nat) : Bool := (mlG M i).final && hasB s.dne i
def complS (M : Mdl) (s : Sta) : Bool := (List.range M.miles.length).any (cmpF M s)
def atZ (l : List Int) (i : Int) : Int := if inM i l.length = true then l.getD i.toNat 0 else 0
def ofR (M : Mdl) (role user : Int) : Bool := inM role M.roles.length && inM user M.users.length && hasB (rolU M role.toNat) user
def freeV (M : Mdl) (s : Sta) (v : Ev) (e u : Int) : Bool := decide (v.stage < (M.stages.length : Int)) && hasB s.opn v.stage && ofR M v.role u && (decide (v.times ≤ 0) || decide (atZ s.cnt e < v.times))
def freeS (M : Mdl) (s : Sta) (e u : Int) : Bool := inM e M.events.length && !complS M s && freeV M s (evG M e.toNat) e u
def hadS (s : Sta) (e u : Int) : Bool := hasB (atZ s.did e) u
def aptX (s : Sta) (e u : Int) (x : Int × Int) : Bool := (decide (x.1 = e) && hadS s x.2 u) || (decide (x.2 = e) && hadS s x.1 u)
def sodG (M : Mdl) (i : Nat) : Int × Int := M.sods.getD i (0, 0)
theorem sodG_of {M : Mdl} {i : Nat} {a : Int × Int} (h : M.sods[i]? = some a) : sodG M i = a := getD_of _ h
def aptS (M : Mdl) (s : Sta) (e u : Int) : Bool := (List.range M.sods.length).any fun i => aptX s e u (sodG M i)
def enabS (M : Mdl) (s : Sta) (e u : Int) : Bool := freeS M s e u && !aptS M s e u
def whoN (M : Mdl) (s : Sta) (e : Int) (n : Nat) : List Int := ((List.range n).filter fun u : Nat => enabS M s e (u : Int)).map fun u : Nat => (u : Int)
theorem whoN_hit {M : Mdl} {s : Sta} {e : Int} {n : Nat} (h : enabS M s e (n : Int) = true) : whoN M s e (n + 1) = whoN M s e n ++ [(n : Int)] := by
  unfold whoN
  rw [List.range_succ, List.filter_append, List.map_append, List.filter_cons_of_pos (by exact h)]; rfl
theorem whoN_miss {M : Mdl} {s : Sta} {e : Int} {n : Nat} (h : enabS M s e (n : Int) = false) : whoN M s e (n + 1) = whoN M s e n := by
  unfold whoN
  rw [List.range_succ, List.filter_append, List.map_append, List.filter_cons_of_neg (by rw [h]; decide)]; simp
theorem whoN_len (M : Mdl) (s : Sta) (e : Int) (n : Nat) : (whoN M s e n).length ≤ n := by
  unfold whoN
  rw [List.length_map]
  exact Nat.le_trans (List.length_filter_le _ _) (by simp)
def anyU (M : Mdl) (s : Sta) (e : Nat) : Bool := (List.range M.users.length).any fun u => enabS M s e u
theorem anyU_who (M : Mdl) (s : Sta) (e : Nat) : anyU M s e = decide (0 < (whoN M s e M.users.length).length) := by
  unfold anyU whoN
  rw [List.length_map]
  cases h : (List.range M.users.length).any fun u => enabS M s e u
  · rw [List.any_eq_false] at h
    have : (List.range M.users.length).filter (fun u : Nat => enabS M s (e : Int) (u : Int)) = [] := by
      rw [List.filter_eq_nil_iff]; exact h
    rw [this]; rfl
  · obtain ⟨u, hu, he⟩ := List.any_eq_true.1 h
    have : u ∈ (List.range M.users.length).filter (fun u : Nat => enabS M s (e : Int) (u : Int)) := List.mem_filter.2 ⟨hu, he⟩
    symm
    exact decide_eq_true (List.length_pos_of_mem this)
def anyS (M : Mdl) (s : Sta) : Bool := (List.range M.events.length).any (anyU M s)
def openA (M : Mdl) (s : Sta) : Bool := (List.range M.stages.length).any fun i => hasB s.opn i
def freeU (M : Mdl) (s : Sta) (e : Nat) : Bool := (List.range M.users.length).any fun u => freeS M s e u
def freeA (M : Mdl) (s : Sta) : Bool := (List.range M.events.length).any (freeU M s)
def stuckS (M : Mdl) (s : Sta) : Bool := openA M s && freeA M s && !complS M s && !anyS M s

/-! sentries -/
def parL (M : Mdl) : List Int := M.stages.map (·.2)
/-- a sentry's stage, event, condition -/
def findS (M : Mdl) (x : Bool × Int) : Option (Int × Int × List Ins) :=
  if x.1 = true then (if inM x.2 M.miles.length = true then some ((mlG M x.2.toNat).stage, (mlG M x.2.toNat).event, (mlG M x.2.toNat).ifs) else none)
  else (if inM x.2 M.guards.length = true then some ((gdG M x.2.toNat).stage, (gdG M x.2.toNat).event, (gdG M x.2.toNat).ifs) else none)
def abvS (M : Mdl) (s : Sta) (st : Int) : Bool := decide (stgP M st.toNat = -1) || (decide (stgP M st.toNat < (M.stages.length : Int)) && hasB s.opn (stgP M st.toNat))
def readyS (M : Mdl) (s : Sta) (x : Bool × Int) (ev : Int) : Bool :=
  match findS M x with
  | some (st, e, _) => inM st M.stages.length && (decide (e = -1) || decide (e = ev)) && (hasB s.opn st == x.1) && (x.1 || abvS M s st)
  | none => false
def condS (M : Mdl) (x : Bool × Int) : List Ins := match findS M x with | some (_, _, c) => c | none => []
def firesS (M : Mdl) (s : Sta) (x : Bool × Int) (ev : Int) : Bool := readyS M s x ev && (condO (condS M x) s == some true)
def closeZ (M : Mdl) (o st : Int) : Int := (ofB fun j => hasN o j && !(decide ((j : Int) = st) || (decide (j < M.stages.length) && isUp (parL M) st (j : Int))) : Nat)
def undoZ (M : Mdl) (d st : Int) : Int := (ofB fun j => hasN d j && !(decide (j < M.miles.length) && decide ((mlG M j).stage = st)) : Nat)
def fireS (M : Mdl) (s : Sta) (x : Bool × Int) : Sta :=
  match findS M x with
  | some (st, _, _) => if inM st M.stages.length = true then (if x.1 = true then { s with opn := closeZ M s.opn st, dne := putZ s.dne x.2 true } else { s with opn := putZ s.opn st true, dne := undoZ M s.dne st }) else s
  | none => s
def pasX (M : Mdl) (ev : Int) (s : Sta) (x : Bool × Int) : Sta := if firesS M s x ev = true then fireS M s x else s
def pasS (M : Mdl) (ev : Int) (s : Sta) : Sta := M.order.foldl (pasX M ev) s

/-! steps -/
def beginS (M : Mdl) : Sta := pasS M (-1) (startS M)
def idlM (v : Mv) : Bool := decide (v.event = -1) && decide (v.user = -1) && decide (v.vals.length = 0)
def mayS (M : Mdl) (s : Sta) (v : Mv) : Int :=
  if chkS M s = false then 15 else if idlM v = true then (if anyS M s = true then 16 else 0)
  else if enabS M s v.event v.user = false then 16 else if v.vals.length ≠ (evG M v.event.toNat).sets.length then 17 else 0
/-- numbers set, one behind the other -/
def setV : List Int → List Int → List Int → List Int
  | a :: A, n :: N, l => setV A N (if inM a l.length = true then l.set a.toNat n else l)
  | _, _, l => l
def takeS (M : Mdl) (s : Sta) (v : Mv) : Sta :=
  { s with vals := setV (evG M v.event.toNat).sets v.vals s.vals, did := s.did.set v.event.toNat (putZ (s.did.getD v.event.toNat 0) v.user true),
           cnt := if 0 < (evG M v.event.toNat).times then s.cnt.set v.event.toNat (s.cnt.getD v.event.toNat 0 + 1) else s.cnt }
def zeroS : Sta := ⟨[], 0, 0, [], []⟩
def doS (M : Mdl) (s : Sta) (v : Mv) : Sta × Int :=
  if mayS M s v ≠ 0 then (zeroS, mayS M s v) else if idlM v = true then (s, 0) else (pasS M v.event (takeS M s v), 0)
/-- the states that moves lead through, from a state on -/
def runG (M : Mdl) : Sta → List Mv → List Sta × Int
  | s, [] => ([s], 0)
  | s, v :: r => if (doS M s v).2 ≠ 0 then ([s], (doS M s v).2) else (s :: (runG M (doS M s v).1 r).1, (runG M (doS M s v).1 r).2)
def allG (M : Mdl) (l : List Mv) : List Sta × Int := runG M (beginS M) l

/-! one bit behind the other -/
theorem putZ_ofB (f : Nat → Bool) (i : Nat) (is : Bool) : putZ ((ofB f : Nat) : Int) i is = ((ofB fun j => if j = i then is else f j : Nat) : Int) := by
  unfold putZ
  refine congrArg (fun n : Nat => (n : Int)) (ofB_congr _ _ fun j hj => ?_)
  rw [hasN_ofB f j hj]
  by_cases h : j = i
  · rw [if_pos h, if_pos (by omega)]
  · rw [if_neg h, if_neg (by omega)]
theorem lo_id {s : Int} (h0 : 0 ≤ s) (h1 : s < 2147483648) : ((lo s : Nat) : Int) = s := by unfold lo; omega
theorem putZ_hasN (s : Int) (i : Nat) (is : Bool) (j : Nat) (hj : j < 31) : hasN (putZ s i is) j = if j = i then is else hasN s j := by
  unfold putZ
  rw [hasN_ofB _ j hj]
  by_cases h : j = i
  · rw [if_pos h, if_pos (by omega)]
  · rw [if_neg h, if_neg (by omega)]
theorem foldPut (L : List Int) : ∀ (o : Int), (∀ x ∈ L, 0 ≤ x ∧ x < 31) → (L ≠ [] ∨ (0 ≤ o ∧ o < 2147483648)) → L.foldl (fun o i => putZ o i false) o = ((ofB fun j => hasN o j && !decide ((j : Int) ∈ L) : Nat) : Int) := by
  induction L with
  | nil =>
    intro o _ h
    rcases h with h | h
    · exact absurd rfl h
    simp only [List.foldl_nil, List.not_mem_nil, decide_false, Bool.not_false, Bool.and_true]
    have := lo_ofB o
    rw [← lo_id h.1 h.2, this]
    exact congrArg (fun n : Nat => (n : Int)) (ofB_congr _ _ fun j hj => (hasN_ofB _ j hj).symm)
  | cons x L ih =>
    intro o hL _
    have hx := hL x (by simp)
    rw [List.foldl_cons, ih _ (fun y hy => hL y (by simp [hy])) (.inr (putZ_bd o x false))]
    refine congrArg (fun n : Nat => (n : Int)) (ofB_congr _ _ fun j hj => ?_)
    obtain ⟨i, rfl⟩ : ∃ i : Nat, x = (i : Int) := ⟨x.toNat, by omega⟩
    rw [putZ_hasN o i false j hj]
    by_cases h : j = i
    · subst h
      rw [if_pos rfl]
      simp
    · rw [if_neg h]
      have : ¬ ((j : Int) = (i : Int)) := by omega
      simp [this]
end Go.Proofs.YtadjnfpomjopkaaGreat

namespace Go.Proofs.YtadjnfpomjopkaaGreat
open Go.RowKit
section
variable {α : Type}
def lessG (i : Nat) (L : List α) : List α := L.take i ++ L.drop (i + 1)
theorem lessG_len {i : Nat} {L : List α} (h : i < L.length) : (lessG i L).length + 1 = L.length := by
  unfold lessG; rw [List.length_append, List.length_take, List.length_drop]; omega
theorem lessG_mem {i : Nat} {L : List α} {y : α} (h : y ∈ lessG i L) : y ∈ L := by
  unfold lessG at h
  rcases List.mem_append.1 h with h | h
  · exact List.mem_of_mem_take h
  · exact List.mem_of_mem_drop h
theorem lessG_sub (i : Nat) (L : List α) : (lessG i L).Sublist L := by
  unfold lessG
  have h : (L.take i ++ L.drop (i + 1)).Sublist (L.take i ++ L.drop i) := by
    refine List.Sublist.append (List.Sublist.refl _) ?_
    rw [← List.drop_drop]
    exact List.drop_sublist _ _
  rwa [List.take_append_drop] at h
/-- from the last item that is looked at on, each goes if it may -/
def passG (p : List α → Bool) : Nat → List α → List α
  | 0, L => L
  | i + 1, L => if p (lessG i L) = true then passG p i (lessG i L) else passG p i L
theorem passG_len (p : List α → Bool) : ∀ (i : Nat) (L : List α), i ≤ L.length → (passG p i L).length ≤ L.length
  | 0, L, _ => Nat.le_refl _
  | i + 1, L, h => by
    rw [passG]
    have hl := lessG_len (show i < L.length by omega)
    split
    · have := passG_len p i (lessG i L) (by omega); omega
    · exact passG_len p i L (by omega)
theorem passG_sub (p : List α → Bool) : ∀ (i : Nat) (L : List α), (passG p i L).Sublist L
  | 0, L => List.Sublist.refl _
  | i + 1, L => by
    rw [passG]
    split
    · exact (passG_sub p i _).trans (lessG_sub i L)
    · exact passG_sub p i L
theorem passG_hold (p : List α → Bool) : ∀ (i : Nat) (L : List α), p L = true → p (passG p i L) = true
  | 0, L, h => h
  | i + 1, L, h => by
    rw [passG]
    split
    · rename_i hp; exact passG_hold p i _ hp
    · exact passG_hold p i L h
/-- if nothing goes, all stays -/
theorem passG_same (p : List α → Bool) : ∀ (i : Nat) (L : List α), i ≤ L.length → (passG p i L).length = L.length → passG p i L = L
  | 0, L, _, _ => rfl
  | i + 1, L, h, e => by
    rw [passG] at e ⊢
    have hl := lessG_len (show i < L.length by omega)
    split at e
    · have := passG_len p i (lessG i L) (by omega); omega
    · rename_i hp
      rw [if_neg hp]
      exact passG_same p i L (by omega) e
/-- until nothing goes -/
def runN (p : List α → Bool) : Nat → List α → List α
  | 0, L => L
  | k + 1, L => if (passG p L.length L).length = L.length then L else runN p k (passG p L.length L)
def shrG (p : List α → Bool) (L : List α) : List α := if p L = true then runN p (L.length + 1) L else L
theorem runN_stop {p : List α → Bool} {k : Nat} {L R : List α} (hk : L.length < k) (h : runN p k L = R) (e : (passG p L.length L).length = L.length) : R = L := by
  obtain ⟨k, rfl⟩ : ∃ q, k = q + 1 := ⟨k - 1, by omega⟩
  rw [runN, if_pos e] at h; exact h.symm
theorem runN_go {p : List α → Bool} {k : Nat} {L R : List α} (hk : L.length < k) (h : runN p k L = R) (e : (passG p L.length L).length ≠ L.length) : ∃ j, (passG p L.length L).length < j ∧ runN p j (passG p L.length L) = R := by
  obtain ⟨k, rfl⟩ : ∃ q, k = q + 1 := ⟨k - 1, by omega⟩
  rw [runN, if_neg e] at h
  have := passG_len p L.length L (Nat.le_refl _)
  exact ⟨k, by omega, h⟩
theorem runN_sub (p : List α → Bool) : ∀ (k : Nat) (L : List α), (runN p k L).Sublist L
  | 0, L => List.Sublist.refl _
  | k + 1, L => by
    rw [runN]
    split
    · exact List.Sublist.refl _
    · exact (runN_sub p k _).trans (passG_sub p _ L)
theorem runN_hold (p : List α → Bool) : ∀ (k : Nat) (L : List α), p L = true → p (runN p k L) = true
  | 0, L, h => h
  | k + 1, L, h => by
    rw [runN]
    split
    · exact h
    · exact runN_hold p k _ (passG_hold p _ L h)
theorem shrG_sub (p : List α → Bool) (L : List α) : (shrG p L).Sublist L := by
  unfold shrG; split
  · exact runN_sub p _ L
  · exact List.Sublist.refl _
theorem shrG_hold (p : List α → Bool) (L : List α) : p (shrG p L) = p L := by
  unfold shrG; split
  · rename_i h; rw [runN_hold p _ L h, h]
  · rfl
theorem shrG_no {p : List α → Bool} {L : List α} (h : p L = false) : shrG p L = L := by unfold shrG; rw [h]; rfl
end

/-! moves -/
def mvB (a b : Mv) : Bool := decide (a.event = b.event) && decide (a.user = b.user) && decide (a.vals = b.vals)
theorem mvB_refl (a : Mv) : mvB a a = true := by simp [mvB]
theorem mvB_iff {a b : Mv} : mvB a b = true ↔ a = b := by
  constructor
  · intro h
    simp only [mvB, Bool.and_eq_true, decide_eq_true_eq] at h
    cases a; cases b
    obtain ⟨⟨h1, h2⟩, h3⟩ := h
    cases h1; cases h2; cases h3; rfl
  · rintro rfl; exact mvB_refl _
/-- do these stand there, in their order: the first that fits is taken -/
def partG : List Mv → List Mv → Bool
  | [], _ => true
  | _ :: _, [] => false
  | a :: l, b :: r => if mvB a b = true then partG l r else partG (a :: l) r
theorem partG_sub : ∀ (r l : List Mv), l.Sublist r → partG l r = true
  | [], l, h => by rw [List.sublist_nil.1 h]; rfl
  | b :: r, [], _ => rfl
  | b :: r, a :: l, h => by
    rw [partG]
    by_cases e : a = b
    · rw [if_pos (mvB_iff.2 e)]
      refine partG_sub r l ?_
      subst e
      exact List.cons_sublist_cons.1 h
    · rw [if_neg (fun q => e (mvB_iff.1 q))]
      refine partG_sub r (a :: l) ?_
      cases h with
      | cons _ h => exact h
      | cons_cons _ h => exact absurd rfl e
end Go.Proofs.YtadjnfpomjopkaaGreat

namespace Go.Proofs.YtadjnfpomjopkaaGreat
open Go.RowKit

theorem row_apart {w : World} {base : Nat} {e t : TypeId} {sz : Nat} {v : Value} {n k : Nat} {xs : List Value} {cs : Array Value} {fr : Nat × Nat} (h : w.ownsRow base e sz v n xs) (hk : w.heap[k]? = some (.cells cs t fr)) (hne : t ≠ e) : v.ownBlock ≠ some k := by
  rcases h.2 with ⟨rfl, _⟩ | ⟨g, cap, cur, rfl, _, hg, _⟩
  · simp [Value.ownBlock]
  · intro hgk
    simp [Value.ownBlock] at hgk
    subst hgk
    rw [hk] at hg
    simp at hg
    exact hne hg.2.1
theorem row_store {w : World} {base : Nat} {e t : TypeId} {sz : Nat} {v : Value} {n k : Nat} {xs : List Value} {cs : Array Value} {fr : Nat × Nat} (h : w.ownsRow base e sz v n xs) (hk : w.heap[k]? = some (.cells cs t fr)) (hne : t ≠ e) (j : Nat) (u : Value) :
    (w.setCell ⟨k, j, none⟩ u).ownsRow base e sz v n xs := by
  have hnb := row_apart h hk hne
  refine ⟨h.1, ?_⟩
  rcases h.2 with hn | ⟨g, cap, cur, hv, hBg, hgg, r⟩
  · exact .inl hn
  · exact .inr ⟨g, cap, cur, hv, hBg, (Below.heap_setCell _ _ _ _ (by show g ≠ k; intro e'; exact hnb (by rw [hv, e']; rfl))).trans hgg, r⟩
theorem bytes_beq (x s : ByteArray) : (x.toList == s.toList) = decide (x = s) := by
  rw [Bool.eq_iff_iff, decide_eq_true_iff, beq_iff_eq, ByteArray.toList_eq, ByteArray.toList_eq]
  exact ⟨fun h => ByteArray.ext (Array.ext' h), fun h => by rw [h]⟩

end Go.Proofs.YtadjnfpomjopkaaGreat

namespace Go.Proofs.YtadjnfpomjopkaaGreat
open Go.RowKit

/-- block b holds these cells -/
def Blk (w : World) (b : Nat) (cs : Array Value) (t : TypeId) : Prop := w.heap[b]? = some (.cells cs t (0, 0))
theorem Blk.new (w : World) (cs : Array Value) (t : TypeId) : Blk (w.alloc (.cells cs t)) w.heap.size cs t := heap_alloc_new w _
theorem Blk.lt {w : World} {b : Nat} {cs : Array Value} {t : TypeId} (h : Blk w b cs t) : b < w.heap.size := (Array.getElem?_eq_some_iff.1 h).1
theorem Blk.keep {w w' : World} {b : Nat} {cs : Array Value} {t : TypeId} (h : Blk w b cs t) (hb : Below w.heap.size w w') : Blk w' b cs t := (hb.block b h.lt).trans h
theorem Blk.low {w w' : World} {b B : Nat} {cs : Array Value} {t : TypeId} (h : Blk w b cs t) (hb : Below B w w') (hB : b < B) : Blk w' b cs t := (hb.block b hB).trans h
theorem Blk.drew {w : World} {b : Nat} {cs : Array Value} {t : TypeId} (h : Blk w b cs t) : Blk w.drew b cs t := h
theorem Blk.drewN {w : World} {b : Nat} {cs : Array Value} {t : TypeId} (h : Blk w b cs t) (n : Nat) : Blk (w.drewN n) b cs t := h
theorem Blk.alloc {w : World} {b : Nat} {cs : Array Value} {t : TypeId} (h : Blk w b cs t) (o : Obj) : Blk (w.alloc o) b cs t := (Below.heap_alloc _ _ _ h.lt).trans h
theorem Blk.grown {w w' : World} {b : Nat} {cs : Array Value} {t : TypeId} {row : Option Nat} (h : Blk w b cs t) (hg : w.grownBy w' row) (hne : row ≠ some b) : Blk w' b cs t := (hg.block b h.lt (Ne.symm hne)).trans h
theorem Blk.other {w : World} {b g j : Nat} {cs : Array Value} {t : TypeId} (h : Blk w b cs t) (hne : b ≠ g) (u : Value) : Blk (w.setCell ⟨g, j, none⟩ u) b cs t := (Below.heap_setCell _ _ _ _ (by show b ≠ g; exact hne)).trans h
theorem Blk.cell {w : World} {b : Nat} {cs : Array Value} {t : TypeId} (h : Blk w b cs t) {i : Nat} {v : Value} (hv : cs[i]? = some v) : w.cell? ⟨b, i, none⟩ = some v := by
  unfold Blk at h; simp [World.cell?, h, hv]
theorem Blk.free {w : World} {b : Nat} {cs : Array Value} {t : TypeId} (h : Blk w b cs t) (i : Nat) : w.frozen? ⟨b, i, none⟩ = false := by
  unfold Blk at h; simp [World.frozen?, h]
theorem Blk.store {w : World} {b : Nat} {cs : Array Value} {t : TypeId} (h : Blk w b cs t) (j : Nat) (u : Value) : Blk (w.setCell ⟨b, j, none⟩ u) b (cs.set! j u) t := heap_setCell_same w b j _ _ u h
theorem Blk.two {w : World} {b : Nat} {x y : Value} {t : TypeId} (h : Blk w b #[x, y] t) : w.cell? ⟨b, 0, none⟩ = some x ∧ w.cell? ⟨b, 1, none⟩ = some y := ⟨h.cell rfl, h.cell rfl⟩
theorem Blk.put2 {w : World} {b : Nat} {x y : Value} {t : TypeId} (h : Blk w b #[x, y] t) (u v : Value) : Blk ((w.setCell ⟨b, 0, none⟩ u).setCell ⟨b, 1, none⟩ v) b #[u, v] t := (h.store 0 u).store 1 v
theorem Blk.over2 {w : World} {b g : Nat} {cs : Array Value} {t : TypeId} (h : Blk w b cs t) (hne : b ≠ g) (u v : Value) : Blk ((w.setCell ⟨g, 0, none⟩ u).setCell ⟨g, 1, none⟩ v) b cs t := (h.other hne u).other hne v
theorem Blk.nine {w : World} {b : Nat} {a0 a1 a2 a3 a4 a5 a6 a7 a8 : Value} {t : TypeId} (h : Blk w b #[a0, a1, a2, a3, a4, a5, a6, a7, a8] t) :
    w.cell? ⟨b, 0, none⟩ = some a0 ∧ w.cell? ⟨b, 1, none⟩ = some a1 ∧ w.cell? ⟨b, 2, none⟩ = some a2 ∧ w.cell? ⟨b, 3, none⟩ = some a3 ∧ w.cell? ⟨b, 4, none⟩ = some a4 ∧ w.cell? ⟨b, 5, none⟩ = some a5 ∧ w.cell? ⟨b, 6, none⟩ = some a6 ∧ w.cell? ⟨b, 7, none⟩ = some a7 ∧ w.cell? ⟨b, 8, none⟩ = some a8 :=
  ⟨h.cell rfl, h.cell rfl, h.cell rfl, h.cell rfl, h.cell rfl, h.cell rfl, h.cell rfl, h.cell rfl, h.cell rfl⟩

end Go.Proofs.YtadjnfpomjopkaaGreat
