import Derived.Test.YtjmggphnngffjaaPutL
import Derived.Test.YtjmggphnngffjaaPutM
import Derived.Test.YtjmggphnngffjaaSrt2
import Derived.Test.YtjmggphnngffjaaZonePlain
import Derived.Deep.RegionHeld3
/- Check of warderref22: sits, classes. -/
namespace Go.Proofs.Ytjmggphnngffjaa
open Go.RowKit Go.Shelf

def sitsZ (cl : List (Int × Int)) (a : Int) : Nat := (cl.filter fun c => hasB c.1 a).length
theorem sitsZ_take (cl : List (Int × Int)) (a : Int) (k : Nat) (x y : Int) (h : cl[k]? = some (x, y)) : sitsZ (cl.take (k + 1)) a = sitsZ (cl.take k) a + (if hasB x a = true then 1 else 0) := by
  obtain ⟨h1, h2⟩ := List.getElem?_eq_some_iff.1 h
  unfold sitsZ
  rw [List.take_succ_eq_append_getElem h1, List.filter_append, List.length_append, h2]
  simp only [List.filter_cons, List.filter_nil]
  split <;> simp
theorem sitsZ_le (cl : List (Int × Int)) (a : Int) : sitsZ cl a ≤ cl.length := List.length_filter_le _ _

set_option maxRecDepth 100000 in
set_option maxHeartbeats 2000000 in
theorem rsits_any {w : World} {v1 v2 : Value} {cl : List (Int × Int)} {gl : List Int} (a : Int) (hz : ZoneIn w v1 v2 cl gl) (hcl : cl.length ≤ 100) (hxb : ∀ c ∈ cl, ClsOK c) :
    Calls Try.prog 64 #[.agg #[v1, v2], .int .i64 a] w fun e w' => e = .returned (.int .i64 (sitsZ cl a)) ∧ Below w.heap.size w w' := by
  obtain ⟨ad1, k1, e1⟩ := hz.1.len
  obtain ⟨ad2, k2, e2⟩ := hz.2.len
  obtain ⟨n, hn⟩ : ∃ n, cl.length = n := ⟨_, rfl⟩
  obtain ⟨m, hm⟩ : ∃ m, gl.length = m := ⟨_, rfl⟩
  rw [hn] at e1; rw [hm] at e2
  subst e1; subst e2
  obtain ⟨W1, hW1⟩ : ∃ W1, w.alloc (.cells #[.slice ad1 n k1, .slice ad2 m k2] 45) = W1 := ⟨_, rfl⟩
  have hb1 : Below w.heap.size w W1 := by rw [← hW1]; exact (Below.refl _ _).alloc (Nat.le_refl _) _
  have x1 : Blk W1 w.heap.size #[.slice ad1 n k1, .slice ad2 m k2] 45 := by rw [← hW1]; exact Blk.new _ _ _
  have hz1 := (hz.below hb1).1
  rw [hn] at hz1 hcl
  have HZ1 := Lib.hid hz1; have HB1 := Lib.hid hb1; have HXB := Lib.hid hxb; have HN := Lib.hid hn
  have c0 := x1.two.1; have c1 := x1.two.2
  clear hz hb1 x1 hn hm hxb hz1
  go_enter Try.func64, Try.ntmps64
  go_wp2_with fail
  go_loopw [5, 6] (fun q i wr => ∃ k : Nat, k ≤ n ∧ i = .int .i64 k ∧ q = .int .i64 (sitsZ (cl.take k) a) ∧ wr = W1) (fun _ i _ => n - (intOf i).toNat)
  case atStart => exact ⟨0, Nat.zero_le _, rfl, rfl, rfl⟩
  case round =>
    obtain ⟨k, hk, rfl, rfl, rfl⟩ := hrel
    by_cases hlt : k < n
    · have hkn : (k : Int) < (n : Int) := by omega
      obtain ⟨xy, hxy⟩ : ∃ xy, cl[k]? = some xy := ⟨_, List.getElem?_eq_getElem (by rw [HN.out]; exact hlt)⟩
      obtain ⟨x, y⟩ := xy
      obtain ⟨b', o', rfl, _, d0, d1⟩ := HZ1.out.cls hxy (by omega)
      obtain ⟨⟨hx0, hx1⟩, -⟩ := HXB.out (x, y) (List.mem_of_getElem? hxy)
      have hT := Lib.hid (sitsZ_take cl a k x y hxy)
      have hS : sitsZ (cl.take k) a ≤ 100 := Nat.le_trans (sitsZ_le _ _) (by rw [List.length_take]; omega)
      obtain ⟨s, hs⟩ : ∃ s, sitsZ (cl.take k) a = s := ⟨_, rfl⟩
      obtain ⟨q, hq⟩ : ∃ q, hasB x a = q := ⟨_, rfl⟩
      rw [hs] at hT hS ⊢
      rw [hq] at hT
      have HQ := Lib.hid hq
      clear hxy hq hs
      go_wp2_with fail
      refine (rhas_any x a _ hx0 hx1).mono ?_
      rintro e w' ⟨rfl, rfl⟩
      rw [HQ.out]
      cases q
      · go_wp2_with fail
        go_roundw
        case rel => exact ⟨k + 1, by omega, by go_num, int_eq (by rw [hT.out]; simp), trivial⟩
        case measure => simp [intOf]; omega
      · go_wp2_with fail
        go_roundw
        case rel => exact ⟨k + 1, by omega, by go_num, int_eq (by rw [hT.out]; simp), trivial⟩
        case measure => simp [intOf]; omega
    · obtain rfl : k = n := by omega
      have hF : sitsZ (cl.take k) a = sitsZ cl a := by rw [← HN.out, List.take_length]
      rw [hF]
      go_wp2_with fail
      go_ret
      exact ⟨rfl, HB1.out⟩

end Go.Proofs.Ytjmggphnngffjaa

/- Check of warderref22: classes. -/
namespace Go.Proofs.Ytjmggphnngffjaa
open Go.RowKit Go.Shelf

def sitsB (cl : List (Int × Int)) (n : Int) (k : Nat) : Bool := (List.range k).all fun a => decide (sitsZ cl a = if (a : Int) < n then 1 else 0)
theorem sitsB_succ (cl : List (Int × Int)) (n : Int) (k : Nat) : sitsB cl n (k + 1) = (sitsB cl n k && decide (sitsZ cl k = if (k : Int) < n then 1 else 0)) := by simp [sitsB, List.range_succ, List.all_append]
def stepC (x y : Int) (q : Nat) : Bool := decide (0 ≤ x) && decide (x < 2147483648) && (decide (0 < x) || decide (0 ≤ y)) && (decide (y = -1) || decide (y = (q : Int)))
theorem stepC_is (x y : Int) (q : Nat) : stepC x y q = decide (0 ≤ x ∧ x < 2147483648 ∧ (0 < x ∨ 0 ≤ y) ∧ (y = -1 ∨ y = (q : Int))) := by
  rw [Bool.eq_iff_iff]; simp [stepC, and_assoc]
def clsF (cl : List (Int × Int)) : Bool × Nat := cl.foldl (fun s c => (s.1 && stepC c.1 c.2 s.2, if c.2 = -1 then s.2 else s.2 + 1)) (true, 0)
theorem clsF_take (cl : List (Int × Int)) (k : Nat) (x y : Int) (h : cl[k]? = some (x, y)) : clsF (cl.take (k + 1)) = ((clsF (cl.take k)).1 && stepC x y (clsF (cl.take k)).2, if y = -1 then (clsF (cl.take k)).2 else (clsF (cl.take k)).2 + 1) := by
  obtain ⟨h1, h2⟩ := List.getElem?_eq_some_iff.1 h
  unfold clsF
  rw [List.take_succ_eq_append_getElem h1, List.foldl_append, h2]
  rfl
theorem clsF_le (cl : List (Int × Int)) (k : Nat) : (clsF (cl.take k)).2 ≤ k := by
  induction k with
  | zero => simp [clsF]
  | succ k ih =>
    by_cases hk : k < cl.length
    · rw [clsF_take cl k (cl[k]).1 (cl[k]).2 (List.getElem?_eq_getElem hk)]
      dsimp only
      split <;> omega
    · rw [List.take_of_length_le (by omega)]
      rw [List.take_of_length_le (by omega)] at ih
      omega
def classesZ (cl : List (Int × Int)) (n m : Int) : Bool := (sitsB cl n 31 && (clsF cl).1) && decide (((clsF cl).2 : Int) = m)

set_option maxRecDepth 100000 in
set_option maxHeartbeats 4000000 in
theorem rclasses_any {w : World} {v1 v2 : Value} {cl : List (Int × Int)} {gl : List Int} (n m : Int) (hz : ZoneIn w v1 v2 cl gl) (hcl : cl.length ≤ 100) (hxb : ∀ c ∈ cl, ClsOK c) :
    Calls Try.prog 42 #[.agg #[v1, v2], .int .i64 n, .int .i64 m] w fun e w' => e = .returned (.bool (classesZ cl n m)) ∧ Below w.heap.size w w' := by
  obtain ⟨ad1, k1, e1⟩ := hz.1.len
  obtain ⟨ad2, k2, e2⟩ := hz.2.len
  obtain ⟨p, hp⟩ : ∃ n, cl.length = n := ⟨_, rfl⟩
  obtain ⟨q, hq⟩ : ∃ m, gl.length = m := ⟨_, rfl⟩
  rw [hp] at e1; rw [hq] at e2
  subst e1; subst e2
  obtain ⟨W1, hW1⟩ : ∃ W1, w.alloc (.cells #[.slice ad1 p k1, .slice ad2 q k2] 45) = W1 := ⟨_, rfl⟩
  have hb1 : Below w.heap.size w W1 := by rw [← hW1]; exact (Below.refl _ _).alloc (Nat.le_refl _) _
  have x1 : Blk W1 w.heap.size #[.slice ad1 p k1, .slice ad2 q k2] 45 := by rw [← hW1]; exact Blk.new _ _ _
  have HZ1 := Lib.hid (hz.below hb1); have HB1 := Lib.hid hb1; have HXB := Lib.hid hxb; have HP := Lib.hid hp; have HX1 := Lib.hid x1
  have hp100 : p ≤ 100 := by omega
  have HCL := Lib.hid hcl
  clear hz hb1 x1 hp hq hxb hcl
  go_enter Try.func42, Try.ntmps42
  go_wp2_with fail
  go_loopw [7, 8] (fun ok i wr => ∃ k : Nat, k ≤ 31 ∧ i = .int .i64 k ∧ ok = .bool (sitsB cl n k) ∧ Hid (Below W1.heap.size W1 wr)) (fun _ i _ => 31 - (intOf i).toNat)
  case atStart => exact ⟨0, Nat.zero_le _, rfl, rfl, Below.refl _ _⟩
  case round =>
    obtain ⟨k, hk, rfl, rfl, HB⟩ := hrel
    have x1 : Blk wr w.heap.size _ _ := HX1.out.keep HB.out
    have c0 := x1.two.1; have c1 := x1.two.2
    have hwl := x1.lt
    by_cases hlt : k < 31
    · have hkn : (k : Int) < 31 := by omega
      have hT := Lib.hid (sitsB_succ cl n k)
      have HS := Lib.hid (rsits_any (k : Int) (HZ1.out.below HB.out) HCL.out HXB.out)
      obtain ⟨s, hs⟩ : ∃ s, sitsZ cl k = s := ⟨_, rfl⟩
      obtain ⟨ok, hok⟩ : ∃ ok, sitsB cl n k = ok := ⟨_, rfl⟩
      rw [hs] at hT HS
      rw [hok] at hT ⊢
      clear x1 hs hok
      cases ok
      · have hT' : Hid (sitsB cl n (k + 1) = false) := by unfold Hid; rw [hT.out]; rfl
        by_cases hkn : (k : Int) < n
        · go_wp2_with fail
          go_roundw
          case rel => exact ⟨k + 1, by omega, by go_num, by rw [hT'.out], HB⟩
          case measure => simp [intOf]; omega
        · go_wp2_with fail
          go_roundw
          case rel => exact ⟨k + 1, by omega, by go_num, by rw [hT'.out], HB⟩
          case measure => simp [intOf]; omega
      · by_cases hkn : (k : Int) < n
        · have hT' : Hid (sitsB cl n (k + 1) = ((s : Int) == 1)) := by
            unfold Hid; rw [hT.out, if_pos hkn, Bool.true_and, Bool.eq_iff_iff, decide_eq_true_iff, beq_iff_eq]; omega
          go_wp2_with fail
          refine HS.out.mono ?_
          rintro e w' ⟨rfl, hb⟩
          have HB' := Lib.hid (HB.out.trans (hb.mono HB.out.size))
          clear hb
          go_wp2_with fail
          go_roundw
          case rel => exact ⟨k + 1, by omega, by go_num, by rw [hT'.out], HB'⟩
          case measure => simp [intOf]; omega
        · have hT' : Hid (sitsB cl n (k + 1) = ((s : Int) == 0)) := by
            unfold Hid; rw [hT.out, if_neg hkn, Bool.true_and, Bool.eq_iff_iff, decide_eq_true_iff, beq_iff_eq]; omega
          go_wp2_with fail
          refine HS.out.mono ?_
          rintro e w' ⟨rfl, hb⟩
          have HB' := Lib.hid (HB.out.trans (hb.mono HB.out.size))
          clear hb
          go_wp2_with fail
          go_roundw
          case rel => exact ⟨k + 1, by omega, by go_num, by rw [hT'.out], HB'⟩
          case measure => simp [intOf]; omega
    · obtain rfl : k = 31 := by omega
      obtain ⟨S, hS⟩ : ∃ S, sitsB cl n 31 = S := ⟨_, rfl⟩
      have HS := Lib.hid hS
      rw [hS]
      clear hS hwl c0 c1 x1
      go_wp2_with fail
      obtain ⟨W2, rfl⟩ : ∃ W2, W2 = wr := ⟨_, rfl⟩
      go_loopw [7, 9, 10] (fun ok nx i wr => ∃ k : Nat, k ≤ p ∧ i = .int .i64 k ∧ ok = .bool (S && (clsF (cl.take k)).1) ∧ nx = .int .i64 (clsF (cl.take k)).2 ∧ Hid (Below W1.heap.size W1 wr)) (fun _ _ i _ => p - (intOf i).toNat)
      case atStart => exact ⟨0, Nat.zero_le _, rfl, by simp [clsF], rfl, HB⟩
      case round =>
        clear HB
        obtain ⟨k, hk, rfl, rfl, rfl, HB⟩ := hrel
        have x1 : Blk wr w.heap.size _ _ := HX1.out.keep HB.out
        have c0 := x1.two.1; have c1 := x1.two.2
        have hwl := x1.lt
        by_cases hlt : k < p
        · have hkn : (k : Int) < (p : Int) := by omega
          obtain ⟨xy, hxy⟩ : ∃ xy, cl[k]? = some xy := ⟨_, List.getElem?_eq_getElem (by rw [HP.out]; exact hlt)⟩
          obtain ⟨x, y⟩ := xy
          have hz2 := (HZ1.out.below HB.out).1
          rw [HP.out] at hz2
          obtain ⟨b', o', rfl, _, d0, d1⟩ := hz2.cls hxy (by omega)
          have hT := Lib.hid (clsF_take cl k x y hxy)
          have hle := clsF_le cl k
          obtain ⟨F, hF⟩ : ∃ F, clsF (cl.take k) = F := ⟨_, rfl⟩
          rw [hF] at hT hle ⊢
          obtain ⟨F1, F2⟩ := F
          dsimp only at hT hle ⊢
          obtain ⟨ok, hok⟩ : ∃ ok, (S && F1) = ok := ⟨_, rfl⟩
          rw [hok]
          have HOK := Lib.hid hok
          have HBA := Lib.hid (HB.out.alloc HB.out.size (.cells #[.int .i64 x, .int .i64 y] 63))
          have hz0 : (0 : Int) ≤ (F2 : Int) := by omega
          clear x1 hxy hz2 hF hok
          have hcase : (ok = false ∧ y = -1) ∨ (ok = false ∧ ¬ y = -1) ∨ (ok = true ∧ ¬ 0 ≤ x ∧ y = -1) ∨ (ok = true ∧ ¬ 0 ≤ x ∧ ¬ y = -1) ∨ (ok = true ∧ 0 ≤ x ∧ ¬ x < 2147483648 ∧ y = -1) ∨ (ok = true ∧ 0 ≤ x ∧ ¬ x < 2147483648 ∧ ¬ y = -1) ∨ (ok = true ∧ 0 ≤ x ∧ x < 2147483648 ∧ ¬ 0 < x ∧ ¬ 0 ≤ y ∧ y = -1) ∨ (ok = true ∧ 0 ≤ x ∧ x < 2147483648 ∧ ¬ 0 < x ∧ ¬ 0 ≤ y ∧ ¬ y = -1) ∨ (ok = true ∧ 0 ≤ x ∧ x < 2147483648 ∧ 0 < x ∧ y = -1) ∨ (ok = true ∧ 0 ≤ x ∧ x < 2147483648 ∧ 0 < x ∧ ¬ y = -1 ∧ y = (F2 : Int)) ∨ (ok = true ∧ 0 ≤ x ∧ x < 2147483648 ∧ 0 < x ∧ ¬ y = -1 ∧ ¬ y = (F2 : Int)) ∨ (ok = true ∧ 0 ≤ x ∧ x < 2147483648 ∧ ¬ 0 < x ∧ 0 ≤ y ∧ ¬ y = -1 ∧ y = (F2 : Int)) ∨ (ok = true ∧ 0 ≤ x ∧ x < 2147483648 ∧ ¬ 0 < x ∧ 0 ≤ y ∧ ¬ y = -1 ∧ ¬ y = (F2 : Int)) := by
            cases ok
            · by_cases h : y = -1
              · exact .inl ⟨rfl, h⟩
              · exact .inr (.inl ⟨rfl, h⟩)
            · simp only [Bool.true_eq_false, false_and, true_and, false_or]
              omega
          rcases hcase with ⟨rfl, hy0⟩ | ⟨rfl, hy0⟩ | ⟨rfl, h0, hy0⟩ | ⟨rfl, h0, hy0⟩ | ⟨rfl, h0, h1, hy0⟩ | ⟨rfl, h0, h1, hy0⟩ | ⟨rfl, h0, h1, h2, h3, hy0⟩ | ⟨rfl, h0, h1, h2, h3, hy0⟩ | ⟨rfl, h0, h1, h2, hy0⟩ | ⟨rfl, h0, h1, h2, hy0, hy1⟩ | ⟨rfl, h0, h1, h2, hy0, hy1⟩ | ⟨rfl, h0, h1, h2, h3, hy0, hy1⟩ | ⟨rfl, h0, h1, h2, h3, hy0, hy1⟩
          · have HC : Hid ((S && (clsF (cl.take (k + 1))).1) = false ∧ (clsF (cl.take (k + 1))).2 = F2) := by
              refine ⟨?_, by rw [hT.out]; exact if_pos hy0⟩
              rw [hT.out, ← Bool.and_assoc, HOK.out]; rfl
            subst hy0
            clear hT HOK
            go_wp2_with fail
            go_roundw
            case rel => exact ⟨k + 1, by omega, by go_num, by rw [HC.out.1], by rw [HC.out.2], HBA⟩
            case measure => simp [intOf]; omega
          · have HC : Hid ((S && (clsF (cl.take (k + 1))).1) = false ∧ (clsF (cl.take (k + 1))).2 = F2 + 1) := by
              refine ⟨?_, by rw [hT.out]; exact if_neg hy0⟩
              rw [hT.out, ← Bool.and_assoc, HOK.out]; rfl
            have hyb : (y == -1) = false := by simpa using hy0
            clear hT HOK
            go_wp2_with fail
            go_roundw
            case rel => exact ⟨k + 1, by omega, by go_num, by rw [HC.out.1], by rw [HC.out.2]; exact int_eq (by omega), HBA⟩
            case measure => simp [intOf]; omega
          · have HC : Hid ((S && (clsF (cl.take (k + 1))).1) = false ∧ (clsF (cl.take (k + 1))).2 = F2) := by
              refine ⟨?_, by rw [hT.out]; exact if_pos hy0⟩
              rw [hT.out, ← Bool.and_assoc, HOK.out, stepC_is, Bool.true_and]; exact decide_eq_false (by omega)
            subst hy0
            clear hT HOK
            go_wp2_with fail
            go_roundw
            case rel => exact ⟨k + 1, by omega, by go_num, by rw [HC.out.1], by rw [HC.out.2], HBA⟩
            case measure => simp [intOf]; omega
          · have HC : Hid ((S && (clsF (cl.take (k + 1))).1) = false ∧ (clsF (cl.take (k + 1))).2 = F2 + 1) := by
              refine ⟨?_, by rw [hT.out]; exact if_neg hy0⟩
              rw [hT.out, ← Bool.and_assoc, HOK.out, stepC_is, Bool.true_and]; exact decide_eq_false (by omega)
            have hyb : (y == -1) = false := by simpa using hy0
            clear hT HOK
            go_wp2_with fail
            go_roundw
            case rel => exact ⟨k + 1, by omega, by go_num, by rw [HC.out.1], by rw [HC.out.2]; exact int_eq (by omega), HBA⟩
            case measure => simp [intOf]; omega
          · have HC : Hid ((S && (clsF (cl.take (k + 1))).1) = false ∧ (clsF (cl.take (k + 1))).2 = F2) := by
              refine ⟨?_, by rw [hT.out]; exact if_pos hy0⟩
              rw [hT.out, ← Bool.and_assoc, HOK.out, stepC_is, Bool.true_and]; exact decide_eq_false (by omega)
            subst hy0
            clear hT HOK
            go_wp2_with fail
            go_roundw
            case rel => exact ⟨k + 1, by omega, by go_num, by rw [HC.out.1], by rw [HC.out.2], HBA⟩
            case measure => simp [intOf]; omega
          · have HC : Hid ((S && (clsF (cl.take (k + 1))).1) = false ∧ (clsF (cl.take (k + 1))).2 = F2 + 1) := by
              refine ⟨?_, by rw [hT.out]; exact if_neg hy0⟩
              rw [hT.out, ← Bool.and_assoc, HOK.out, stepC_is, Bool.true_and]; exact decide_eq_false (by omega)
            have hyb : (y == -1) = false := by simpa using hy0
            clear hT HOK
            go_wp2_with fail
            go_roundw
            case rel => exact ⟨k + 1, by omega, by go_num, by rw [HC.out.1], by rw [HC.out.2]; exact int_eq (by omega), HBA⟩
            case measure => simp [intOf]; omega
          · have HC : Hid ((S && (clsF (cl.take (k + 1))).1) = false ∧ (clsF (cl.take (k + 1))).2 = F2) := by
              refine ⟨?_, by rw [hT.out]; exact if_pos hy0⟩
              rw [hT.out, ← Bool.and_assoc, HOK.out, stepC_is, Bool.true_and]; exact decide_eq_false (by omega)
            subst hy0
            clear hT HOK
            go_wp2_with fail
            go_roundw
            case rel => exact ⟨k + 1, by omega, by go_num, by rw [HC.out.1], by rw [HC.out.2], HBA⟩
            case measure => simp [intOf]; omega
          · have HC : Hid ((S && (clsF (cl.take (k + 1))).1) = false ∧ (clsF (cl.take (k + 1))).2 = F2 + 1) := by
              refine ⟨?_, by rw [hT.out]; exact if_neg hy0⟩
              rw [hT.out, ← Bool.and_assoc, HOK.out, stepC_is, Bool.true_and]; exact decide_eq_false (by omega)
            have hyb : (y == -1) = false := by simpa using hy0
            clear hT HOK
            go_wp2_with fail
            go_roundw
            case rel => exact ⟨k + 1, by omega, by go_num, by rw [HC.out.1], by rw [HC.out.2]; exact int_eq (by omega), HBA⟩
            case measure => simp [intOf]; omega
          · have HC : Hid ((S && (clsF (cl.take (k + 1))).1) = true ∧ (clsF (cl.take (k + 1))).2 = F2) := by
              refine ⟨?_, by rw [hT.out]; exact if_pos hy0⟩
              rw [hT.out, ← Bool.and_assoc, HOK.out, stepC_is, Bool.true_and]; exact decide_eq_true (by omega)
            subst hy0
            clear hT HOK
            go_wp2_with fail
            go_roundw
            case rel => exact ⟨k + 1, by omega, by go_num, by rw [HC.out.1], by rw [HC.out.2], HBA⟩
            case measure => simp [intOf]; omega
          · have HC : Hid ((S && (clsF (cl.take (k + 1))).1) = true ∧ (clsF (cl.take (k + 1))).2 = F2 + 1) := by
              refine ⟨?_, by rw [hT.out]; exact if_neg hy0⟩
              rw [hT.out, ← Bool.and_assoc, HOK.out, stepC_is, Bool.true_and]; exact decide_eq_true (by omega)
            subst hy1
            have hyb : ((F2 : Int) == -1) = false := by simp
            clear hT HOK
            go_wp2_with fail
            go_roundw
            case rel => exact ⟨k + 1, by omega, by go_num, by rw [HC.out.1], by rw [HC.out.2]; exact int_eq (by omega), HBA⟩
            case measure => simp [intOf]; omega
          · have HC : Hid ((S && (clsF (cl.take (k + 1))).1) = false ∧ (clsF (cl.take (k + 1))).2 = F2 + 1) := by
              refine ⟨?_, by rw [hT.out]; exact if_neg hy0⟩
              rw [hT.out, ← Bool.and_assoc, HOK.out, stepC_is, Bool.true_and]; exact decide_eq_false (by omega)
            have hyb : (y == -1) = false := by simpa using hy0
            have hyc : (y == (F2 : Int)) = false := by simpa using hy1
            clear hT HOK
            go_wp2_with fail
            go_roundw
            case rel => exact ⟨k + 1, by omega, by go_num, by rw [HC.out.1], by rw [HC.out.2]; exact int_eq (by omega), HBA⟩
            case measure => simp [intOf]; omega
          · have HC : Hid ((S && (clsF (cl.take (k + 1))).1) = true ∧ (clsF (cl.take (k + 1))).2 = F2 + 1) := by
              refine ⟨?_, by rw [hT.out]; exact if_neg hy0⟩
              rw [hT.out, ← Bool.and_assoc, HOK.out, stepC_is, Bool.true_and]; exact decide_eq_true (by omega)
            subst hy1
            have hyb : ((F2 : Int) == -1) = false := by simp
            clear hT HOK
            go_wp2_with fail
            go_roundw
            case rel => exact ⟨k + 1, by omega, by go_num, by rw [HC.out.1], by rw [HC.out.2]; exact int_eq (by omega), HBA⟩
            case measure => simp [intOf]; omega
          · have HC : Hid ((S && (clsF (cl.take (k + 1))).1) = false ∧ (clsF (cl.take (k + 1))).2 = F2 + 1) := by
              refine ⟨?_, by rw [hT.out]; exact if_neg hy0⟩
              rw [hT.out, ← Bool.and_assoc, HOK.out, stepC_is, Bool.true_and]; exact decide_eq_false (by omega)
            have hyb : (y == -1) = false := by simpa using hy0
            have hyc : (y == (F2 : Int)) = false := by simpa using hy1
            clear hT HOK
            go_wp2_with fail
            go_roundw
            case rel => exact ⟨k + 1, by omega, by go_num, by rw [HC.out.1], by rw [HC.out.2]; exact int_eq (by omega), HBA⟩
            case measure => simp [intOf]; omega
        · obtain rfl : k = p := by omega
          have hF : clsF (cl.take k) = clsF cl := by rw [← HP.out, List.take_length]
          have HE : Hid (classesZ cl n m = ((S && (clsF cl).1) && decide (((clsF cl).2 : Int) = m))) := by unfold Hid classesZ; rw [HS.out]
          rw [hF]
          obtain ⟨F, hF2⟩ : ∃ F, clsF cl = F := ⟨_, rfl⟩
          rw [hF2] at HE ⊢
          obtain ⟨ok, hok⟩ : ∃ ok, (S && F.1) = ok := ⟨_, rfl⟩
          rw [hok] at HE ⊢
          have HL := Lib.hid (HB1.out.trans (HB.out.mono HB1.out.size))
          clear hF hF2 hok x1
          cases ok
          · go_wp2_with fail
            go_ret
            exact ⟨by rw [HE.out]; rfl, HL.out⟩
          · by_cases hm : (F.2 : Int) = m
            · go_wp2_with fail
              go_ret
              exact ⟨by rw [HE.out]; simp [hm], HL.out⟩
            · go_wp2_with fail
              go_ret
              exact ⟨by rw [HE.out]; simp [hm], HL.out⟩

end Go.Proofs.Ytjmggphnngffjaa

/- Check of warderref22: fits. -/
namespace Go.Proofs.Ytjmggphnngffjaa
open Go.RowKit Go.Shelf

/-- so many gaps from a place on -/
def cutP (gl : List Int) (p k : Nat) : List Int := (gl.drop p).take k
theorem cutP_succ (gl : List Int) (p k : Nat) (g : Int) (h : gl[p + k]? = some g) : cutP gl p (k + 1) = cutP gl p k ++ [g] := by
  obtain ⟨h1, h2⟩ := List.getElem?_eq_some_iff.1 h
  unfold cutP
  have hl : k < (gl.drop p).length := by rw [List.length_drop]; omega
  rw [List.take_succ_eq_append_getElem hl, List.getElem_drop, h2]
theorem cutP_sum (gl : List Int) (p k : Nat) (hg : ∀ g ∈ gl, 0 ≤ g ∧ g ≤ 1000) : 0 ≤ (cutP gl p k).sum ∧ (cutP gl p k).sum ≤ 1000 * k := by
  have key : ∀ (l : List Int), (∀ g ∈ l, 0 ≤ g ∧ g ≤ 1000) → 0 ≤ l.sum ∧ l.sum ≤ 1000 * l.length := by
    intro l
    induction l with
    | nil => intro _; simp
    | cons a t ih =>
      intro h
      have h1 := h a (by simp)
      have h2 := ih (fun g hg => h g (List.mem_cons_of_mem _ hg))
      rw [List.sum_cons, List.length_cons]
      omega
  have h := key (cutP gl p k) (fun g hg' => hg g (List.mem_of_mem_drop (List.mem_of_mem_take hg')))
  have hl : (cutP gl p k).length ≤ k := List.length_take_le _ _
  omega
def sumP (gl : List Int) (p q : Nat) : Int := ((q : Int) - p - 1) + (cutP gl p (q - p)).sum
def fitsB (gl : List Int) (p q : Nat) (cap a b : Int) : Bool :=
  (gapZ a b (sumP gl p q + 1) == sumP gl p q) || ((cutP gl p (q - p)).any (fun g => g == cap) && decide (sumP gl p q < gapZ a b (sumP gl p q + 1)))

set_option maxRecDepth 100000 in
set_option maxHeartbeats 4000000 in
theorem rfits_any {w : World} {v1 v2 : Value} {cl : List (Int × Int)} {gl : List Int} (p q : Nat) (cap a b : Int) (hz : ZoneIn w v1 v2 cl gl) (hpq : p < q) (hq : q ≤ gl.length) (hgl : gl.length ≤ 100) (hg : ∀ g ∈ gl, 0 ≤ g ∧ g ≤ 1000) (ha : In64 a) (hb : In64 b) :
    Calls Try.prog 43 #[.agg #[v1, v2], .int .i64 p, .int .i64 q, .int .i64 cap, .int .i64 a, .int .i64 b] w fun e w' => e = .returned (.bool (fitsB gl p q cap a b)) ∧ Below w.heap.size w w' := by
  obtain ⟨ad1, k1, e1⟩ := hz.1.len
  obtain ⟨ad2, k2, e2⟩ := hz.2.len
  obtain ⟨n, hn⟩ : ∃ n, cl.length = n := ⟨_, rfl⟩
  obtain ⟨m, hm⟩ : ∃ m, gl.length = m := ⟨_, rfl⟩
  rw [hn] at e1; rw [hm] at e2
  subst e1; subst e2
  obtain ⟨W1, hW1⟩ : ∃ W1, w.alloc (.cells #[.slice ad1 n k1, .slice ad2 m k2] 45) = W1 := ⟨_, rfl⟩
  have hb1 : Below w.heap.size w W1 := by rw [← hW1]; exact (Below.refl _ _).alloc (Nat.le_refl _) _
  have x1 : Blk W1 w.heap.size #[.slice ad1 n k1, .slice ad2 m k2] 45 := by rw [← hW1]; exact Blk.new _ _ _
  have hz1 := (hz.below hb1).2
  rw [hm] at hz1 hq hgl
  have HZ1 := Lib.hid hz1; have HB1 := Lib.hid hb1; have HG := Lib.hid hg; have HM := Lib.hid hm
  obtain ⟨b', o', rfl, hbl, hcells⟩ := hz1.at (by omega)
  have HC := Lib.hid hcells
  have c0 := x1.two.1; have c1 := x1.two.2
  have HA := Lib.hid ha; have HBB := Lib.hid hb
  obtain ⟨D, hD⟩ : ∃ D, q - p = D := ⟨_, rfl⟩
  have hD100 : D ≤ 100 := by omega
  have hw1 : (q : Int) - (p : Int) - 1 = (D : Int) - 1 := by omega
  have HF : Hid (fitsB gl p q cap a b = ((gapZ a b ((D : Int) - 1 + (cutP gl p D).sum + 1) == (D : Int) - 1 + (cutP gl p D).sum) || ((cutP gl p D).any (fun g => g == cap) && decide ((D : Int) - 1 + (cutP gl p D).sum < gapZ a b ((D : Int) - 1 + (cutP gl p D).sum + 1))))) := by
    unfold Hid fitsB sumP; rw [hD, hw1]
  clear hz hb1 x1 hn hm hg hz1 hcells ha hb
  go_enter Try.func43, Try.ntmps43
  go_wp2_with fail
  go_loopw [13, 14, 15] (fun s wd i wr => ∃ k : Nat, k ≤ D ∧ i = .int .i64 ((p : Int) + k) ∧ s = .int .i64 ((D : Int) - 1 + (cutP gl p k).sum) ∧ wd = .bool ((cutP gl p k).any (fun g => g == cap)) ∧ wr = W1) (fun _ _ i _ => D - (intOf i - p).toNat)
  case atStart => exact ⟨0, Nat.zero_le _, int_eq (by omega), int_eq (by simp [cutP]), by simp [cutP], rfl⟩
  case round =>
    obtain ⟨k, hk, rfl, rfl, rfl, rfl⟩ := hrel
    have hsm := cutP_sum gl p k HG.out
    by_cases hlt : k < D
    · have hkn : (p : Int) + (k : Int) < (q : Int) := by omega
      obtain ⟨x, hx⟩ : ∃ x : Nat, p + k = x := ⟨_, rfl⟩
      have hxi : (p : Int) + (k : Int) = (x : Int) := by omega
      rw [hxi] at hkn ⊢
      obtain ⟨g, hgk⟩ : ∃ g, gl[x]? = some g := ⟨_, List.getElem?_eq_getElem (by rw [HM.out]; omega)⟩
      have d0 : wr.cell? ⟨b', o' + x, none⟩ = some (.int .i64 g) := HC.out _ _ (by unfold ints; rw [List.getElem?_map, hgk]; rfl)
      have hgb := HG.out g (List.mem_of_getElem? hgk)
      have hT := Lib.hid (cutP_succ gl p k g (by rw [hx]; exact hgk))
      have hxm : x < m := by omega
      have HXI := Lib.hid hxi
      obtain ⟨S, hS⟩ : ∃ S, (cutP gl p k).sum = S := ⟨_, rfl⟩
      obtain ⟨wd, hwd⟩ : ∃ wd, (cutP gl p k).any (fun g => g == cap) = wd := ⟨_, rfl⟩
      have hT1 : Hid ((cutP gl p (k + 1)).sum = S + g) := by unfold Hid; rw [hT.out, List.sum_append, hS]; simp
      have hT2 : Hid ((cutP gl p (k + 1)).any (fun g => g == cap) = (wd || (g == cap))) := by unfold Hid; rw [hT.out, List.any_append, hwd]; simp
      have HX1 : Hid ((x : Int) + 1 = (p : Int) + ((k + 1 : Nat) : Int)) := by unfold Hid; omega
      have HX2 : Hid ((x : Int) - p = k) := by unfold Hid; omega
      rw [hS] at hsm
      rw [hS, hwd]
      clear hgk hT hS hwd hx hxi
      cases wd
      · go_wp2_with fail
        go_roundw
        case rel => exact ⟨k + 1, by omega, int_eq HX1.out, by rw [hT1.out]; exact int_eq (by omega), by rw [hT2.out]; rfl, trivial⟩
        case measure => have := HX2.out; simp [intOf]; omega
      · go_wp2_with fail
        go_roundw
        case rel => exact ⟨k + 1, by omega, int_eq HX1.out, by rw [hT1.out]; exact int_eq (by omega), by rw [hT2.out]; rfl, trivial⟩
        case measure => have := HX2.out; simp [intOf]; omega
    · obtain rfl : k = D := by omega
      have hkn : ¬ (p : Int) + (k : Int) < (q : Int) := by omega
      obtain ⟨s, hs⟩ : ∃ s : Nat, (k : Int) - 1 + (cutP gl p k).sum = s := ⟨((k : Int) - 1 + (cutP gl p k).sum).toNat, by omega⟩
      have hs1 : (s : Int) + 1 = ((s + 1 : Nat) : Int) := by omega
      have hsb : s ≤ 200000 := by omega
      obtain ⟨wd, hwd⟩ : ∃ wd, (cutP gl p k).any (fun g => g == cap) = wd := ⟨_, rfl⟩
      rw [hs, hwd] at HF
      rw [hs, hwd]
      have HGAP := Lib.hid (rgap_any a b (s + 1) wr HA.out.1 HBB.out.2 (by omega))
      rw [← hs1] at HGAP
      obtain ⟨z, hz⟩ : ∃ z, gapZ a b ((s : Int) + 1) = z := ⟨_, rfl⟩
      rw [hz] at HGAP HF
      clear hs hwd hs1 hz hsm
      go_wp2_with fail
      refine HGAP.out.mono ?_
      rintro e w' ⟨rfl, rfl⟩
      by_cases h1 : z = (s : Int)
      · go_wp2_with fail
        go_ret
        exact ⟨by rw [HF.out]; simp [h1], HB1.out⟩
      · cases wd
        · go_wp2_with fail
          go_ret
          exact ⟨by rw [HF.out]; simp, HB1.out⟩
        · go_wp2_with fail
          go_ret
          exact ⟨by rw [HF.out]; simp, HB1.out⟩

end Go.Proofs.Ytjmggphnngffjaa

/- Check of warderref22: plain. -/
namespace Go.Proofs.Ytjmggphnngffjaa
open Go.RowKit Go.Shelf

/-- the last class ahead of a place that has a constant -/
def lastI (cl : List (Int × Int)) : Nat → Int
  | 0 => -1
  | k + 1 => if (cl.getD k (0, -1)).2 < 0 then lastI cl k else (k : Int)
def fitOK (cl : List (Int × Int)) (gl C : List Int) (cap : Int) (i : Nat) : Bool :=
  decide ((cl.getD i (0, -1)).2 < 0) || decide (lastI cl i < 0) || fitsB gl (lastI cl i).toNat i cap (C.getD ((cl.getD i (0, -1)).2 - 1).toNat 0) (C.getD (cl.getD i (0, -1)).2.toNat 0)
def fitAll (cl : List (Int × Int)) (gl C : List Int) (cap : Int) (k : Nat) : Bool := (List.range k).all (fitOK cl gl C cap)
theorem fitAll_succ (cl : List (Int × Int)) (gl C : List Int) (cap : Int) (k : Nat) : fitAll cl gl C cap (k + 1) = (fitAll cl gl C cap k && fitOK cl gl C cap k) := by simp [fitAll, List.range_succ, List.all_append]
def gapsOK (gl : List Int) (cap : Int) : Bool := gl.all fun g => decide (0 ≤ g) && decide (g ≤ cap)
def checkZ (cl : List (Int × Int)) (gl : List Int) (n : Int) (C : List Int) (r : Int) : Bool :=
  decide (0 ≤ n ∧ n ≤ 31) && classesZ cl n C.length && decide (gl.length = cl.length - 1) && gapsOK gl (kap r) && fitAll cl gl C (kap r) cl.length

theorem lastI_lt (cl : List (Int × Int)) (k : Nat) : lastI cl k < (k : Int) := by
  induction k with
  | zero => simp [lastI]
  | succ k ih => unfold lastI; split <;> omega
theorem lastI_ge (cl : List (Int × Int)) (k : Nat) : -1 ≤ lastI cl k := by
  induction k with
  | zero => simp [lastI]
  | succ k ih => unfold lastI; split <;> omega
theorem clsF_back (cl : List (Int × Int)) (k : Nat) (hk : k < cl.length) (h : (clsF (cl.take (k + 1))).1 = true) : (clsF (cl.take k)).1 = true ∧ stepC cl[k].1 cl[k].2 (clsF (cl.take k)).2 = true := by
  rw [clsF_take cl k cl[k].1 cl[k].2 (List.getElem?_eq_getElem hk)] at h
  simpa using h
theorem clsF_pre (cl : List (Int × Int)) (h : (clsF cl).1 = true) : ∀ d k, k + d = cl.length → (clsF (cl.take k)).1 = true := by
  intro d
  induction d with
  | zero => intro k hk; rw [List.take_of_length_le (by omega)]; exact h
  | succ d ih =>
    intro k hk
    exact (clsF_back cl k (by omega) (ih (k + 1) (by omega))).1
theorem clsF_mono (cl : List (Int × Int)) (d : Nat) : ∀ k, k + d = cl.length → (clsF (cl.take k)).2 ≤ (clsF cl).2 := by
  induction d with
  | zero => intro k hk; rw [List.take_of_length_le (by omega)]; exact Nat.le_refl _
  | succ d ih =>
    intro k hk
    refine Nat.le_trans ?_ (ih (k + 1) (by omega))
    rw [clsF_take cl k (cl[k]'(by omega)).1 (cl[k]'(by omega)).2 (List.getElem?_eq_getElem (by omega))]
    dsimp only
    split <;> omega
/-- a class with a constant has its number -/
theorem cls_num (cl : List (Int × Int)) (h : (clsF cl).1 = true) (k : Nat) (x y : Int) (hk : cl[k]? = some (x, y)) : (y = -1 ∨ y = ((clsF (cl.take k)).2 : Int)) ∧ (0 ≤ y → y < ((clsF cl).2 : Int)) := by
  obtain ⟨h1, h2⟩ := List.getElem?_eq_some_iff.1 hk
  have hp := clsF_pre cl h (cl.length - (k + 1)) (k + 1) (by omega)
  have hs := (clsF_back cl k h1 hp).2
  rw [h2, stepC_is, decide_eq_true_iff] at hs
  dsimp only at hs
  refine ⟨hs.2.2.2, fun hy => ?_⟩
  have hm := clsF_mono cl (cl.length - (k + 1)) (k + 1) (by omega)
  rw [clsF_take cl k x y hk] at hm
  dsimp only at hm
  rw [if_neg (by omega)] at hm
  have := hs.2.2.2
  omega
theorem last_num (cl : List (Int × Int)) (h : (clsF cl).1 = true) : ∀ k, k ≤ cl.length → 0 ≤ lastI cl k → 1 ≤ (clsF (cl.take k)).2 := by
  intro k
  induction k with
  | zero => intro _ h0; simp [lastI] at h0
  | succ k ih =>
    intro hk h0
    have hlt : k < cl.length := by omega
    have hn := (cls_num cl h k cl[k].1 cl[k].2 (List.getElem?_eq_getElem hlt)).1
    rw [clsF_take cl k cl[k].1 cl[k].2 (List.getElem?_eq_getElem hlt)]
    dsimp only
    unfold lastI at h0
    have hg : cl.getD k (0, -1) = cl[k] := by rw [List.getD_eq_getElem?_getD, List.getElem?_eq_getElem hlt]; rfl
    rw [hg] at h0
    split at h0
    · rw [if_pos (by omega)]; exact ih (by omega) h0
    · rw [if_neg (by omega)]; omega

end Go.Proofs.Ytjmggphnngffjaa

/- Check of warderref22. -/
namespace Go.Proofs.Ytjmggphnngffjaa
open Go.RowKit Go.Shelf

theorem gapsOK_take (gl : List Int) (cap : Int) (k : Nat) (g : Int) (h : gl[k]? = some g) : gapsOK (gl.take (k + 1)) cap = (gapsOK (gl.take k) cap && decide (0 ≤ g ∧ g ≤ cap)) := by
  obtain ⟨h1, h2⟩ := List.getElem?_eq_some_iff.1 h
  unfold gapsOK
  rw [List.take_succ_eq_append_getElem h1, List.all_append, h2]
  simp
theorem gapsOK_bad (gl : List Int) (cap : Int) (k : Nat) (g : Int) (h : gl[k]? = some g) (hg : ¬ (0 ≤ g ∧ g ≤ cap)) : gapsOK gl cap = false := by
  cases e : gapsOK gl cap
  · rfl
  · unfold gapsOK at e
    have := List.all_eq_true.1 e g (List.mem_of_getElem? h)
    simp at this
    exact absurd this hg

set_option maxRecDepth 100000 in
set_option maxHeartbeats 4000000 in
theorem rcheck_any {w : World} {v1 v2 vc : Value} {cl : List (Int × Int)} {gl consts : List Int} (n r : Int) (hz : ZoneIn w v1 v2 cl gl) (hvc : Reads w vc (ints consts)) (hcl : cl.length ≤ 100) (hgl : gl.length ≤ 100) (hxb : ∀ c ∈ cl, ClsOK c) (hgb : ∀ g ∈ gl, In64 g) (hc : consts.length ≤ 100) (hci : ∀ x ∈ consts, In64 x) (hr : kap r ≤ 1000) :
    Calls Try.prog 21 #[.agg #[v1, v2], .int .i64 n, vc, .int .i64 r] w fun e w' => e = .returned (.bool (checkZ cl gl n (sortS consts) r)) ∧ Below w.heap.size w w' := by
  obtain ⟨ad1, k1, e1⟩ := hz.1.len
  obtain ⟨ad2, k2, e2⟩ := hz.2.len
  obtain ⟨ad3, k3, e3, -⟩ := hvc.len
  obtain ⟨p, hp⟩ : ∃ n, cl.length = n := ⟨_, rfl⟩
  obtain ⟨q, hq⟩ : ∃ m, gl.length = m := ⟨_, rfl⟩
  rw [hp] at e1; rw [hq] at e2
  subst e1; subst e2; subst e3
  obtain ⟨W1, hW1⟩ : ∃ W1, w.alloc (.cells #[.slice ad1 p k1, .slice ad2 q k2] 45) = W1 := ⟨_, rfl⟩
  have hb1 : Below w.heap.size w W1 := by rw [← hW1]; exact (Below.refl _ _).alloc (Nat.le_refl _) _
  have x1 : Blk W1 w.heap.size #[.slice ad1 p k1, .slice ad2 q k2] 45 := by rw [← hW1]; exact Blk.new _ _ _
  have HSO := Lib.hid (rsorted_any _ consts W1 (hvc.below (Nat.le_refl _) hb1) (by omega))
  obtain ⟨C, hC⟩ : ∃ C, sortS consts = C := ⟨_, rfl⟩
  have hCi : ∀ x ∈ C, In64 x := fun x hx => hci x (((sortS_ok consts).2 x).1 (by rw [hC]; exact hx))
  have hCl : C.length ≤ 100 := by rw [← hC]; exact Nat.le_trans (sortS_len _) hc
  rw [hC] at HSO ⊢
  obtain ⟨t, ht⟩ : ∃ t, C.length = t := ⟨_, rfl⟩
  rw [ht] at HSO hCl
  obtain ⟨K, hK⟩ : ∃ K, kap r = K := ⟨_, rfl⟩
  have HZ1 := Lib.hid (hz.below hb1); have HB1 := Lib.hid hb1; have HXB := Lib.hid hxb; have HP := Lib.hid hp; have HQ := Lib.hid hq; have HX1 := Lib.hid x1
  have HCI := Lib.hid hCi; have HT := Lib.hid ht; have HK := Lib.hid hK; have HGB := Lib.hid hgb; have HCL := Lib.hid hcl
  have hp100 : p ≤ 100 := by omega
  have hq100 : q ≤ 100 := by omega
  have hK1 : K ≤ 1000 := by omega
  have HE : Hid (checkZ cl gl n C r = (decide (0 ≤ n ∧ n ≤ 31) && classesZ cl n t && decide (q = p - 1) && gapsOK gl K && fitAll cl gl C K p)) := by unfold Hid checkZ; rw [ht, hp, hq, hK]
  clear hz hb1 x1 hp hq hxb hcl hgl hvc hgb hc hci hC hCi ht hK hr
  go_enter Try.func21, Try.ntmps21
  go_wp2_with fail
  refine HSO.out.mono ?_
  rintro e w2 ⟨vs, rfl, ho, hb⟩
  obtain ⟨ad4, k4, e4⟩ := owns_len ho
  subst e4
  have HO := Lib.hid ho
  have HB2 := Lib.hid (HB1.out.trans (hb.mono HB1.out.size))
  have HX2 := Lib.hid (HX1.out.keep hb)
  have HZ2 := Lib.hid (HZ1.out.below hb)
  have HB12 := Lib.hid hb
  clear hb ho HB1 HX1 HZ1 HSO
  have c0 := HX2.out.two.1; have c1 := HX2.out.two.2
  by_cases hn0 : n < 0
  · have HE2 : Hid (checkZ cl gl n C r = false) := by unfold Hid; rw [HE.out, decide_eq_false (show ¬ (0 ≤ n ∧ n ≤ 31) by omega)]; rfl
    go_wp2_with fail
    go_ret
    exact ⟨by rw [HE2.out]; rfl, HB2.out⟩
  by_cases hn1 : 31 < n
  · have HE2 : Hid (checkZ cl gl n C r = false) := by unfold Hid; rw [HE.out, decide_eq_false (show ¬ (0 ≤ n ∧ n ≤ 31) by omega)]; rfl
    go_wp2_with fail
    go_ret
    exact ⟨by rw [HE2.out]; rfl, HB2.out⟩
  have HCS := Lib.hid (rclasses_any n (t : Int) HZ2.out HCL.out HXB.out)
  obtain ⟨cz, hcz⟩ : ∃ cz, classesZ cl n t = cz := ⟨_, rfl⟩
  rw [hcz] at HCS HE
  have HCZ := Lib.hid hcz
  clear hcz
  go_wp2_with fail
  refine HCS.out.mono ?_
  rintro e w3 ⟨rfl, hb⟩
  have HB3 := Lib.hid (HB2.out.trans (hb.mono HB2.out.size))
  have HX3 := Lib.hid (HX2.out.keep hb)
  have HZ3 := Lib.hid (HZ2.out.below hb)
  have HO3 := Lib.hid (owns_below HO.out hb)
  clear hb HB2 HX2 HZ2 HO HCS c0 c1
  have c0 := HX3.out.two.1; have c1 := HX3.out.two.2
  cases cz
  · go_wp2_with fail
    go_ret
    exact ⟨by rw [HE.out]; simp, HB3.out⟩
  by_cases hqp : q = p - 1
  rotate_left
  · have HE2 : Hid (checkZ cl gl n C r = false) := by unfold Hid; rw [HE.out, decide_eq_false hqp]; simp
    have hcase : p = 0 ∨ 1 ≤ p := by omega
    rcases hcase with rfl | hp1
    · have hqz : ¬ (q : Int) = 0 := by omega
      have hqn : ¬ q = 0 := by omega
      have hqb : ((q : Int) != 0) = true := by simpa using hqn
      go_wp2_with fail
      go_ret
      exact ⟨by rw [HE2.out]; rfl, HB3.out⟩
    · obtain ⟨P, rfl⟩ : ∃ P, p = P + 1 := ⟨p - 1, by omega⟩
      have hqn : ¬ q = P := by omega
      have hqz : ¬ (q : Int) = (P : Int) := by omega
      have hqb : ((q : Int) != (P : Int)) = true := by simpa using hqz
      go_wp2_with fail
      go_ret
      exact ⟨by rw [HE2.out]; rfl, HB3.out⟩
  · have HE2 : Hid (checkZ cl gl n C r = (gapsOK gl K && fitAll cl gl C K p)) := by unfold Hid; rw [HE.out, decide_eq_true hqp, decide_eq_true (show 0 ≤ n ∧ n ≤ 31 by omega)]; rfl
    have hcase : p = 0 ∨ 1 ≤ p := by omega
    rcases hcase with rfl | hp1
    · obtain rfl : q = 0 := hqp
      have hgl0 : gl = [] := List.eq_nil_of_length_eq_zero HQ.out
      have HE3 : Hid (checkZ cl gl n C r = true) := by unfold Hid; rw [HE2.out, hgl0]; rfl
      clear hgl0
      go_wp2_with fail
      go_loopw [11] (fun i wr => i = .int .i64 0 ∧ wr = w3) (fun _ _ => 0)
      case atStart => exact ⟨rfl, rfl⟩
      case round =>
        obtain ⟨rfl, rfl⟩ := hrel
        go_wp2_with fail
        go_loopw [10, 12] (fun l i wr1 => l = .int .i64 (-1) ∧ i = .int .i64 0 ∧ wr1 = wr) (fun _ _ _ => 0)
        case atStart => exact ⟨rfl, rfl, rfl⟩
        case round =>
          obtain ⟨rfl, rfl, rfl⟩ := hrel
          go_wp2_with fail
          go_ret
          exact ⟨by rw [HE3.out]; rfl, HB3.out⟩
    · have hq1 : (p : Int) - 1 = (q : Int) := by omega
      clear hqp
      have hz3 := HZ3.out.2
      rw [HQ.out] at hz3
      have HGA := Lib.hid hz3
      clear hz3
      go_wp2_with fail
      go_loopw [11] (fun i wr => ∃ k : Nat, k ≤ q ∧ i = .int .i64 k ∧ Hid (gapsOK (gl.take k) K = true) ∧ Hid (Below w3.heap.size w3 wr)) (fun i _ => q - (intOf i).toNat)
      case atStart => exact ⟨0, Nat.zero_le _, rfl, rfl, Below.refl _ _⟩
      case round =>
        clear c0 c1
        obtain ⟨k, hk, rfl, HOKG, HB⟩ := hrel
        have hx3 := HX3.out.keep HB.out
        have c0 := hx3.two.1; have c1 := hx3.two.2
        by_cases hlt : k < q
        · have hkn : (k : Int) < (q : Int) := by omega
          obtain ⟨g, hgk⟩ : ∃ g, gl[k]? = some g := ⟨_, List.getElem?_eq_getElem (by rw [HQ.out]; exact hlt)⟩
          have hga := HGA.out.below HB.out
          obtain ⟨b', o', rfl, hbl, hcells⟩ := hga.at (by omega)
          have d0 : wr.cell? ⟨b', o' + k, none⟩ = some (.int .i64 g) := hcells _ _ (by unfold ints; rw [List.getElem?_map, hgk]; rfl)
          have hHC : ∀ q', Calls Try.prog 15 #[.int .i64 r] (wr.drewN q') fun e w' => e = .returned (.int .i64 K) ∧ w' = wr.drewN q' := fun q' => (rcap_any r _).mono fun e w' h => ⟨by rw [h.1, HK.out], h.2.symm⟩
          have HHC := Lib.hid hHC
          have HT := Lib.hid (gapsOK_take gl K k g hgk)
          have HBAD := Lib.hid (gapsOK_bad gl K k g hgk)
          clear hgk hga hcells hHC hx3
          by_cases hg0 : g < 0
          · have HE3 : Hid (checkZ cl gl n C r = false) := by unfold Hid; rw [HE2.out, HBAD.out (by omega)]; rfl
            go_upto_region 8 with fail
            go_quiet (fail)
            have HF := Lib.hid (below_drewN (HB3.out.trans (HB.out.mono HB3.out.size)) nq)
            go_wp2_with fail
            go_ret
            exact ⟨by rw [HE3.out]; rfl, HF.out⟩
          by_cases hg1 : (K : Int) < g
          · have HE3 : Hid (checkZ cl gl n C r = false) := by unfold Hid; rw [HE2.out, HBAD.out (by omega)]; rfl
            go_upto_region 8 with fail
            go_quiet ((go_at_call 15; exact Calls.quiet_of_same (HHC.out _)))
            have HF := Lib.hid (below_drewN (HB3.out.trans (HB.out.mono HB3.out.size)) nq)
            go_wp2_with fail
            go_ret
            exact ⟨by rw [HE3.out]; rfl, HF.out⟩
          · have HT2 : Hid (gapsOK (gl.take (k + 1)) K = true) := by unfold Hid; rw [HT.out, HOKG.out, decide_eq_true (by omega)]; rfl
            go_upto_region 8 with fail
            go_quiet ((go_at_call 15; exact Calls.quiet_of_same (HHC.out _)))
            go_wp2_with fail
            go_roundw
            case rel => exact ⟨k + 1, by omega, by go_num, HT2, Lib.hid (below_drewN HB.out _)⟩
            case measure => simp [intOf]; omega
        · obtain rfl : k = q := by omega
          have HE3 : Hid (checkZ cl gl n C r = fitAll cl gl C K p) := by
            have h := HOKG.out
            rw [← HQ.out, List.take_length] at h
            unfold Hid; rw [HE2.out, h]; rfl
          have hgall : ∀ g ∈ gl, 0 ≤ g ∧ g ≤ 1000 := fun g hg => by
            have h := HOKG.out
            rw [← HQ.out, List.take_length] at h
            unfold gapsOK at h
            have := List.all_eq_true.1 h g hg
            simp at this
            omega
          have HGALL := Lib.hid hgall
          have hcf : (clsF cl).1 = true ∧ (clsF cl).2 = t := by
            have h := HCZ.out
            unfold classesZ at h
            simp at h
            exact ⟨h.1.2, by omega⟩
          have HCF := Lib.hid hcf
          clear hgall hcf HGA hx3
          go_wp2_with fail
          clear c0 c1
          go_loopw [10, 12] (fun l i wr => ∃ j : Nat, j ≤ p ∧ i = .int .i64 j ∧ l = .int .i64 (lastI cl j) ∧ Hid (fitAll cl gl C K j = true) ∧ Hid (Below w3.heap.size w3 wr)) (fun _ i _ => p - (intOf i).toNat)
          case atStart => exact ⟨0, Nat.zero_le _, rfl, rfl, rfl, HB⟩
          case round =>
            clear HB
            obtain ⟨j, hj, rfl, rfl, HFA, HB⟩ := hrel
            have hx3 := HX3.out.keep HB.out
            have c0 := hx3.two.1; have c1 := hx3.two.2
            have HBW := Lib.hid (HB3.out.trans (HB.out.mono HB3.out.size))
            by_cases hlt2 : j < p
            · have hjn : (j : Int) < (p : Int) := by omega
              obtain ⟨xy, hxy⟩ : ∃ xy, cl[j]? = some xy := ⟨_, List.getElem?_eq_getElem (by rw [HP.out]; exact hlt2)⟩
              obtain ⟨x, y⟩ := xy
              have hzc := (HZ3.out.below HB.out).1
              rw [HP.out] at hzc
              obtain ⟨b', o', rfl, _, d0, d1⟩ := hzc.cls hxy (by omega)
              have hgd : cl.getD j (0, -1) = (x, y) := by rw [List.getD_eq_getElem?_getD, hxy]; rfl
              have hL1 : lastI cl (j + 1) = if y < 0 then lastI cl j else (j : Int) := by rw [lastI, hgd]
              have hF1 : fitAll cl gl C K (j + 1) = (decide (y < 0) || decide (lastI cl j < 0) || fitsB gl (lastI cl j).toNat j K (C.getD (y - 1).toNat 0) (C.getD y.toNat 0)) := by rw [fitAll_succ, HFA.out, Bool.true_and, fitOK, hgd]
              have hnum := cls_num cl HCF.out.1 j x y hxy
              have hlast := last_num cl HCF.out.1 j (by rw [HP.out]; omega)
              have hlt3 := lastI_lt cl j
              have hge3 := lastI_ge cl j
              obtain ⟨⟨hx0, hx1⟩, hy0, hy1⟩ := HXB.out (x, y) (List.mem_of_getElem? hxy)
              dsimp only at hy0 hy1
              rw [HCF.out.2] at hnum
              obtain ⟨F, hF⟩ : ∃ F, (clsF (cl.take j)).2 = F := ⟨_, rfl⟩
              rw [hF] at hnum hlast
              have hFle : F ≤ 100 := by rw [← hF]; exact Nat.le_trans (clsF_le cl j) (by omega)
              obtain ⟨l, hl⟩ : ∃ l, lastI cl j = l := ⟨_, rfl⟩
              rw [hl] at hL1 hF1 hlast hlt3 hge3 ⊢
              have HL1 := Lib.hid hL1; have HF1 := Lib.hid hF1
              clear hxy hzc hgd hF hL1 hF1 hl hx0 hx1
              by_cases hyn : y < 0
              · have HL2 : Hid (lastI cl (j + 1) = l) := by unfold Hid; rw [HL1.out, if_pos hyn]
                have HF2 : Hid (fitAll cl gl C K (j + 1) = true) := by unfold Hid; rw [HF1.out, decide_eq_true hyn]; rfl
                clear hnum hlast
                go_wp2_with fail
                go_roundw
                case rel => exact ⟨j + 1, by omega, by go_num, by rw [HL2.out], HF2, HB⟩
                case measure => simp [intOf]; omega
              have HL2 : Hid (lastI cl (j + 1) = (j : Int)) := by unfold Hid; rw [HL1.out, if_neg hyn]
              by_cases hln : l < 0
              · obtain rfl : l = -1 := by omega
                have HF2 : Hid (fitAll cl gl C K (j + 1) = true) := by unfold Hid; rw [HF1.out]; simp
                clear hnum hlast
                go_upto_region 15 with fail
                go_quiet (fail)
                go_wp2_with fail
                go_roundw
                case rel => exact ⟨j + 1, by omega, by go_num, by rw [HL2.out], HF2, Lib.hid (below_drewN HB.out _)⟩
                case measure => simp [intOf]; omega
              · obtain ⟨L, rfl⟩ := Int.eq_ofNat_of_zero_le (show 0 ≤ l by omega)
                obtain ⟨Y, rfl⟩ := Int.eq_ofNat_of_zero_le (show 0 ≤ y by omega)
                obtain ⟨Y0, hY0⟩ : ∃ Y0 : Nat, Y = Y0 + 1 := ⟨Y - 1, by omega⟩
                have hY1 : (Y : Int) - 1 = (Y0 : Int) := by omega
                have hYt : Y < t := by omega
                have hY0t : Y0 < t := by omega
                have hYi : (Y : Int) < (t : Int) := by omega
                have hY0i : (Y0 : Int) < (t : Int) := by omega
                have hYz : (0 : Int) ≤ (Y : Int) := by omega
                have hY0z : (0 : Int) ≤ (Y0 : Int) := by omega
                have hLz : (0 : Int) ≤ (L : Int) := by omega
                have hwY : IntKind.i64.wrap ((Y : Int) - 1) = (Y0 : Int) := by rw [wrap_i64_in _ (by omega) (by omega)]; omega
                have hwY0 : IntKind.i64.wrap (Y0 : Int) = (Y0 : Int) := wrap_i64_in _ (by omega) (by omega)
                have hrow := owns_below HO3.out HB.out
                obtain ⟨g, cap', t1⟩ := owns_slice hrow (by omega)
                cases t1
                obtain ⟨A0, hA0⟩ : ∃ A0, C[Y0]? = some A0 := ⟨_, List.getElem?_eq_getElem (by rw [HT.out]; exact hY0t)⟩
                obtain ⟨A1, hA1⟩ : ∃ A1, C[Y]? = some A1 := ⟨_, List.getElem?_eq_getElem (by rw [HT.out]; exact hYt)⟩
                have f0 : wr.cell? ⟨g, Y0, none⟩ = some (.int .i64 A0) := by rw [hrow.cellAt _ (by omega)]; unfold ints; rw [List.getElem?_map, hA0]; rfl
                have f1 : wr.cell? ⟨g, Y, none⟩ = some (.int .i64 A1) := by rw [hrow.cellAt _ (by omega)]; unfold ints; rw [List.getElem?_map, hA1]; rfl
                obtain ⟨ft, hft⟩ : ∃ ft, fitsB gl L j K A0 A1 = ft := ⟨_, rfl⟩
                have HF2 : Hid (fitAll cl gl C K (j + 1) = ft) := by
                  unfold Hid
                  rw [HF1.out, decide_eq_false hyn, decide_eq_false hln, hY1]
                  simp only [Int.toNat_natCast, List.getD_eq_getElem?_getD, hA0, hA1, Option.getD_some, Bool.false_or]
                  exact hft
                have HFT : Hid (∀ W, Below wr.heap.size wr W → Calls Try.prog 43 #[.agg #[.slice (some ⟨b', o', none⟩) p k1, .slice ad2 k k2], .int .i64 L, .int .i64 j, .int .i64 K, .int .i64 A0, .int .i64 A1] W fun e w' => e = .returned (.bool ft) ∧ Below W.heap.size W w') := by
                  intro W hW
                  rw [← hft]
                  exact rfits_any (w := W) L j (K : Int) A0 A1 ((HZ3.out.below HB.out).below hW) (by omega) (by rw [HQ.out]; omega) (by rw [HQ.out]; omega) HGALL.out (HCI.out A0 (List.mem_of_getElem? hA0)) (HCI.out A1 (List.mem_of_getElem? hA1))
                have HCC : Hid (∀ W, Calls Try.prog 15 #[.int .i64 r] W fun e w' => e = .returned (.int .i64 K) ∧ W = w') := fun W => (rcap_any r _).mono fun e w' h => ⟨by rw [h.1, HK.out], h.2⟩
                have HSF : Hid (∀ W, Below wr.heap.size wr W → W.cell? ⟨w.heap.size, 0, none⟩ = some (.slice (some ⟨b', o', none⟩) p k1) ∧ W.cell? ⟨w.heap.size, 1, none⟩ = some (.slice ad2 k k2) ∧ W.cell? ⟨g, Y0, none⟩ = some (.int .i64 A0) ∧ W.cell? ⟨g, Y, none⟩ = some (.int .i64 A1)) := by
                  intro W hW
                  have hx4 := hx3.keep hW
                  have hr4 := owns_below hrow hW
                  refine ⟨hx4.two.1, hx4.two.2, ?_, ?_⟩
                  · rw [hr4.cellAt _ (by omega)]; unfold ints; rw [List.getElem?_map, hA0]; rfl
                  · rw [hr4.cellAt _ (by omega)]; unfold ints; rw [List.getElem?_map, hA1]; rfl
                have hbz : Below wr.heap.size wr wr.drew := (Below.refl _ _).drew
                clear hnum hlast hrow hA0 hA1 hft HF1 HL1 hx3 hY0
                go_upto_region 15 with fail
                go_cut [98] from 79 to 98 (fun v98 wx => v98 = .bool (!ft) ∧ Hid (Below wr.heap.size wr wx))
                case first =>
                  go_region_held3 (fun w' => w'.cell? ⟨w.heap.size, 0, none⟩ = some (.slice (some ⟨b', o', none⟩) p k1) ∧ w'.cell? ⟨w.heap.size, 1, none⟩ = some (.slice ad2 k k2) ∧ w'.cell? ⟨g, Y0, none⟩ = some (.int .i64 A0) ∧ w'.cell? ⟨g, Y, none⟩ = some (.int .i64 A1))
                      (first | exact HSF.out _ (by assumption) | go_keep)
                      (first
                        | (go_simp; go_at_call 15; (with_reducible refine (HCC.out _).mono ?_); rintro e w5 ⟨rfl, rfl⟩)
                        | (go_simp; go_at_call 43; (with_reducible refine (HFT.out _ (by assumption)).mono ?_)
                           rintro e w6 ⟨rfl, hbs⟩
                           have hbz := hbz.trans (hbs.mono hbz.size)
                           clear hbs))
                  all_goals
                    go_wp2_with fail
                    go_meet
                    exact ⟨rfl, Lib.hid hbz⟩
                case rest =>
                  clear HFT HCC HSF hbz f0 f1 d0 d1
                  obtain ⟨rfl, HB'⟩ := hcut
                  have HB := Lib.hid (HB.out.trans (HB'.out.mono HB.out.size))
                  clear HB'
                  have HBW := Lib.hid (HB3.out.trans (HB.out.mono HB3.out.size))
                  cases ft
                  · have HE4 : Hid (checkZ cl gl n C r = false) := by
                      unfold Hid; rw [HE3.out]
                      cases e : fitAll cl gl C K p
                      · rfl
                      · unfold fitAll at e
                        have h1 := List.all_eq_true.1 e j (List.mem_range.2 hlt2)
                        have h2 := HF2.out
                        rw [fitAll_succ, HFA.out, h1] at h2
                        cases h2
                    go_wp2_with fail
                    go_ret
                    exact ⟨by rw [HE4.out]; rfl, HBW.out⟩
                  · go_wp2_with fail
                    go_roundw
                    case rel => exact ⟨j + 1, by omega, by go_num, by rw [HL2.out], HF2, HB⟩
                    case measure => simp [intOf]; omega
            · obtain rfl : j = p := by omega
              have HE4 : Hid (checkZ cl gl n C r = true) := by unfold Hid; rw [HE3.out, HFA.out]
              go_wp2_with fail
              go_ret
              exact ⟨by rw [HE4.out]; rfl, HBW.out⟩

end Go.Proofs.Ytjmggphnngffjaa
