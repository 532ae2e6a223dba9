/- Contract of the formulas' reader: put. Contracts of the formulas' reader: named, did, word. Contracts of the formulas' reader: temporal, word. -/
import Derived.Test.YthhjepgcbfmfeaaGreatDoorSb16

namespace Go.Proofs.YthhjepgcbfmfeaaGreatDoor
open Go.RowKit

theorem info_item : (Tryz.prog.info? 39).map (fun i => (i.zero, i.size, i.bytes)) = some (some (.agg #[.int .i64 0, .string ⟨#[]⟩, .int .i64 0, .string ⟨#[]⟩, .int .i64 0, .string ⟨#[]⟩, .string ⟨#[]⟩, .int .i64 0, .int .i64 0]), 9, 104) := by kernel_rfl

/-- an item in a block of its own -/
def ItB (w : World) (b : Nat) (x : It) : Prop := w.heap[b]? = some (.cells #[.int .i64 x.op, .string x.ln, .int .i64 x.lnum, .string x.rn, .int .i64 x.rnum, .string x.name, .string x.user, .int .i64 x.line, .int .i64 x.col] 39 (0, 0))
def itV (x : It) : Value := .agg #[.int .i64 x.op, .string x.ln, .int .i64 x.lnum, .string x.rn, .int .i64 x.rnum, .string x.name, .string x.user, .int .i64 x.line, .int .i64 x.col]
theorem ItB.facts {w : World} {b : Nat} {x : It} (h : ItB w b x) :
    w.cell? ⟨b, 0, none⟩ = some (.int .i64 x.op) ∧ w.cell? ⟨b, 1, none⟩ = some (.string x.ln) ∧ w.cell? ⟨b, 2, none⟩ = some (.int .i64 x.lnum) ∧ w.cell? ⟨b, 3, none⟩ = some (.string x.rn) ∧ w.cell? ⟨b, 4, none⟩ = some (.int .i64 x.rnum) ∧ w.cell? ⟨b, 5, none⟩ = some (.string x.name) ∧
    w.cell? ⟨b, 6, none⟩ = some (.string x.user) ∧ w.cell? ⟨b, 7, none⟩ = some (.int .i64 x.line) ∧ w.cell? ⟨b, 8, none⟩ = some (.int .i64 x.col) := by
  unfold ItB at h
  refine ⟨?_, ?_, ?_, ?_, ?_, ?_, ?_, ?_, ?_⟩ <;> simp [World.cell?, h]
theorem ItB.lt {w : World} {b : Nat} {x : It} (h : ItB w b x) : b < w.heap.size := (Array.getElem?_eq_some_iff.1 h).1
theorem ItB.alloc {w : World} {b : Nat} {x : It} (h : ItB w b x) (o : Obj) : ItB (w.alloc o) b x := (Below.heap_alloc _ _ _ h.lt).trans h
theorem ItB.drew {w : World} {b : Nat} {x : It} (h : ItB w b x) : ItB w.drew b x := h
theorem ItB.grown {w w' : World} {b : Nat} {x : It} {row : Option Nat} (h : ItB w b x) (hg : w.grownBy w' row) (hne : row ≠ some b) : ItB w' b x := (hg.block b h.lt (Ne.symm hne)).trans h
theorem ItB.setOther {w : World} {b g j : Nat} {x : It} (h : ItB w b x) (hne : g ≠ b) (u : Value) : ItB (w.setCell ⟨g, j, none⟩ u) b x := (Below.heap_setCell _ _ _ _ (by show b ≠ g; omega)).trans h

theorem heap_at_size (w : World) (o : Obj) (n : Nat) (hn : w.heap.size = n) : (w.alloc o).heap[n]? = some o := by subst hn; exact heap_alloc_new w o

/-- the load of the reader's items, under a name of its own: it isn't held, for that cell is written at the region's end -/
def ldPut : Op := Op.load 22 (Operand.tmp 12)
theorem ldPut_is : Op.load 22 (Operand.tmp 12) = ldPut := rfl
attribute [local go_sem] ldPut

theorem Cr.put {w W w3 : World} {B b g3 cap3 : Nat} {lv : Value} {T : List Tk} {i : Int} {prop : Bool} {ov : Value} {O : List It} {er line col : Int} (y : It) (h : Cr w B b lv T i prop ov O er line col) (hW : Below w.heap.size w W) (hB : B ≤ w.heap.size)
    (hg : W.grownBy w3 ov.ownBlock) (hat : ov.ownBlock = some g3 ∨ w.heap.size ≤ g3)
    (hown3 : w3.ownsRow B 39 9 (.slice (some ⟨g3, 0, none⟩) (O.length + 1) cap3) (O.length + 1) (itFlat O ++ itCells y)) :
    CTook w (w3.setCell ⟨b, 3, none⟩ (.slice (some ⟨g3, 0, none⟩) (O.length + 1) cap3)) B b lv T i prop (.slice (some ⟨g3, 0, none⟩) (O.length + 1) cap3) (O ++ [y]) er line col := by
  have hbl := h.lt
  have hne : ov.ownBlock ≠ some b := row_apart h.out h.blk (by decide)
  have hrow : ∀ k, ov.ownBlock = some k → B ≤ k := fun k e => (h.out.lt k e).1
  have hold : ∀ k, k < w.heap.size → ov.ownBlock ≠ some k → w3.heap[k]? = w.heap[k]? := fun k hk hne' => (hg.block k (Nat.lt_of_lt_of_le hk hW.size) (Ne.symm hne')).trans (hW.block k hk)
  have hb3 : w3.heap[b]? = _ := (hold b hbl hne).trans h.blk
  have low3 : Below B w w3 := (hW.mono hB).grown hg (Nat.le_trans hB hW.size) hrow
  have h4 := heap_setCell_same w3 b 3 _ _ (.slice (some ⟨g3, 0, none⟩) (O.length + 1) cap3) hb3
  have low4 := low3.setCell (p := ⟨b, 3, none⟩) h.low (.slice (some ⟨g3, 0, none⟩) (O.length + 1) cap3)
  refine ⟨⟨by simpa using h4, h.low, h.tk.below low4, ?_⟩, low4, ?_⟩
  · rw [itFlat_snoc, List.length_append]
    exact row_store hown3 hb3 (by decide) _ _
  · intro k o hk hkb hko
    have hk1 := (Array.getElem?_eq_some_iff.1 hk).1
    have hkb' : k ≠ b := fun e => hkb (by rw [e])
    have hkr : ov.ownBlock ≠ some k := by
      intro e
      rcases h.out.2 with ⟨rfl, _⟩ | ⟨g, cap, cur, rfl, _, hgg, _⟩
      · simp [Value.ownBlock] at e
      · simp [Value.ownBlock] at e
        subst e
        rw [hk] at hgg
        exact hko _ _ (Option.some.inj hgg)
    rw [Below.heap_setCell _ _ _ _ (by show k ≠ b; exact hkb'), hold k hk1 hkr]
    exact hk

/-- what put leaves -/
def Put (w : World) (B b : Nat) (lv : Value) (T : List Tk) (i : Int) (prop : Bool) (O : List It) (er line col : Int) (e : Ending) (w' : World) : Prop :=
  e = .returned (.bool true) ∧ ∃ ov, CTook w w' B b lv T i prop ov O er line col

set_option maxHeartbeats 2000000 in
theorem put_any {w : World} {B b : Nat} {lv : Value} {T : List Tk} {i : Int} {prop : Bool} {ov : Value} {O : List It} {er line col : Int} (h : Cr w B b lv T i prop ov O er line col) (hB : B ≤ w.heap.size) (hO : O.length ≤ 1000000)
    (op : Int) (ln : ByteArray) (lnum : Int) (rn : ByteArray) (rnum : Int) (name user : ByteArray) (l0 c0 l c : Int) :
    Calls Tryz.prog 47 #[.pointer (some ⟨b, 0, none⟩), .agg #[.int .i64 op, .string ln, .int .i64 lnum, .string rn, .int .i64 rnum, .string name, .string user, .int .i64 l0, .int .i64 c0], .agg #[.int .i64 l, .int .i64 c]] w
      (Put w B b lv T i prop (O ++ [⟨op, ln, lnum, rn, rnum, name, user, l, c⟩]) er line col) := by
  have hbl := h.lt
  obtain ⟨_, _, _, c3, _, _, _⟩ := h.facts
  obtain ⟨_, f3, _, _, _⟩ := h.free
  have HNE := Lib.hid (row_apart h.out h.blk (by decide))
  have HNW : Hid (ov.ownBlock ≠ some w.heap.size) := fun e => by have := (h.out.lt _ e).2; omega
  have HIB := Lib.hid (show ItB (w.alloc (.cells #[.int .i64 op, .string ln, .int .i64 lnum, .string rn, .int .i64 rnum, .string name, .string user, .int .i64 l, .int .i64 c] 39)) w.heap.size ⟨op, ln, lnum, rn, rnum, name, user, l, c⟩ from heap_alloc_new w _)
  have HBW := Lib.hid (((Below.refl w.heap.size w).alloc (Nat.le_refl _) (.cells #[.int .i64 op, .string ln, .int .i64 lnum, .string rn, .int .i64 rnum, .string name, .string user, .int .i64 l, .int .i64 c] 39)).alloc (by simp) (.cells #[.int .i64 l, .int .i64 c] 29))
  have HOUT := Lib.hid h.out
  have HC3 := Lib.hid (And.intro c3 f3)
  obtain ⟨i0, hi0, hz0, hz1, hz2⟩ := info_parts info_item
  have HIP := Lib.hid (And.intro hi0 (And.intro hz0 (And.intro hz1 hz2)))
  have HR := Lib.hid h
  have hMb : (O.length + 1) * 104 ≤ 140737488355328 := by omega
  have hM63 : O.length + 1 ≤ maxLen := by unfold maxLen; omega
  have hb1 : b < w.heap.size + 1 := by omega
  have hb2 : b < w.heap.size + 2 := by omega
  have hn0 : b ≠ w.heap.size := by omega
  have hn1 : b ≠ w.heap.size + 1 := by omega
  have hn2 : b ≠ w.heap.size + 2 := by omega
  clear hi0 hz0 hz1 hz2 h
  go_enter Tryz.func47, Tryz.ntmps47
  go_wp2
  rw [ldPut_is]
  go_region_held3 (fun w' => w'.cell? ⟨w.heap.size, 0, none⟩ = some (.int .i64 op) ∧ w'.cell? ⟨w.heap.size, 1, none⟩ = some (.string ln) ∧ w'.cell? ⟨w.heap.size, 2, none⟩ = some (.int .i64 lnum) ∧ w'.cell? ⟨w.heap.size, 3, none⟩ = some (.string rn) ∧ w'.cell? ⟨w.heap.size, 4, none⟩ = some (.int .i64 rnum) ∧ w'.cell? ⟨w.heap.size, 5, none⟩ = some (.string name) ∧ w'.cell? ⟨w.heap.size, 6, none⟩ = some (.string user) ∧ w'.cell? ⟨w.heap.size, 7, none⟩ = some (.int .i64 l) ∧ w'.cell? ⟨w.heap.size, 8, none⟩ = some (.int .i64 c))
    (first | go_keep | (refine ⟨?_, ?_, ?_, ?_, ?_, ?_, ?_, ?_, ?_⟩ <;> (first | assumption | go_keep | (rw [World.cell?_setCell_other _ _ _ _ (by first | (simp; done) | (simp; omega))]; assumption))))
    ((refine step_append_lies _ (by rfl) _ _ _ (by rfl) B 39 i0 _ 9 104 Tryz.underlying22 HIP.out.1 HIP.out.2.1 HIP.out.2.2.1 HIP.out.2.2.2 rfl (by omega) ov O.length (itFlat O) (by rfl) (World.ownsRow.alloc (World.ownsRow.drew (World.ownsRow.alloc (World.ownsRow.alloc HOUT.out _) _)) _) ⟨w.heap.size + 2, 0, none⟩ 1 1 [.int .i64 op, .string ln, .int .i64 lnum, .string rn, .int .i64 rnum, .string name, .string user, .int .i64 l, .int .i64 c] (by rfl) (by rfl) (World.news_of_block (cs := #[.int .i64 op, .string ln, .int .i64 lnum, .string rn, .int .i64 rnum, .string name, .string user, .int .i64 l, .int .i64 c]) (t := 39) (fr := (0, 0)) (heap_at_size _ _ _ (by simp))) (by simp [Value.oneCell']) (by omega) hM63 hMb (by simp; omega) (w.heap.size + 3) (by simp) ?_
      intro g3 cap3 w3 hown3 hgrow hat hlt3
      have hcb : w3.heap[b]? = _ := (hgrow.block b (by simp; omega) (Ne.symm HNE.out)).trans ((((HBW.out.drew).alloc (by simp; omega) _).block b hbl).trans HR.out.blk)
      have p3 : w3.cell? ⟨b, 3, none⟩ = some ov := by simp [World.cell?, hcb]
      have p5 : w3.frozen? ⟨b, 3, none⟩ = false := by simp [World.frozen?, hcb]
      obtain ⟨n0, n1, n2, n3, n4, n5, n6, n7, n8⟩ := (ItB.grown (ItB.alloc (ItB.drew (ItB.alloc HIB.out _)) _) hgrow HNW.out).facts
      dsimp only at n0 n1 n2 n3 n4 n5 n6 n7 n8))
  all_goals
    have HTK := Lib.hid (Cr.put ⟨op, ln, lnum, rn, rnum, name, user, l, c⟩ HR.out (((HBW.out.drew).alloc (by simp; omega) _)) hB hgrow (by rcases hat with e | e; exact .inl e; exact .inr (by omega)) hown3)
    clear hgrow hown3 hat hcb n0 n1 n2 n3 n4 n5 n6 n7 n8
    go_wp2
    go_ret
    exact ⟨rfl, _, HTK.out⟩

end Go.Proofs.YthhjepgcbfmfeaaGreatDoor

namespace Go.Proofs.YthhjepgcbfmfeaaGreatDoor
open Go.RowKit

theorem CTook.trans {w w1 w2 : World} {B b : Nat} {lv : Value} {T : List Tk} {i j : Int} {prop p2 : Bool} {ov ov2 : Value} {O O2 : List It} {er line col er2 line2 col2 : Int} (h : CTook w w1 B b lv T i prop ov O er line col) (k : CTook w1 w2 B b lv T j p2 ov2 O2 er2 line2 col2) : CTook w w2 B b lv T j p2 ov2 O2 er2 line2 col2 :=
  ⟨k.rd, h.low.trans k.low, h.kept.trans k.kept⟩
theorem CTook.alloc {w w1 : World} {B b : Nat} {lv : Value} {T : List Tk} {i : Int} {prop : Bool} {ov : Value} {O : List It} {er line col : Int} (h : CTook w w1 B b lv T i prop ov O er line col) (hB : B ≤ w.heap.size) (o : Obj) : CTook w (w1.alloc o) B b lv T i prop ov O er line col :=
  h.then ((Below.refl _ _).alloc (Nat.le_refl _) o) hB

/-- what reading leaves: the items read, and the place behind them; or what is wrong -/
def CRes (w : World) (B b : Nat) (lv : Value) (T : List Tk) (prop : Bool) (O : List It) (p : PR) (e : Ending) (w' : World) : Prop :=
  match p with
  | .ok o a => e = .returned (.bool true) ∧ ∃ ov l c, CTook w w' B b lv T a prop ov (O ++ o) 0 l c
  | .bad er l c => e = .returned (.bool false) ∧ ∃ ov O' i', CTook w w' B b lv T i' prop ov O' er l c
theorem CRes.ok {w w' : World} {B b : Nat} {lv : Value} {T : List Tk} {prop : Bool} {O o : List It} {a : Int} {ov : Value} {l c : Int} {e : Ending} {p : PR} (hp : p = .ok o a) (he : e = .returned (.bool true)) (h : CTook w w' B b lv T a prop ov (O ++ o) 0 l c) : CRes w B b lv T prop O p e w' := by
  subst hp; exact ⟨he, _, _, _, h⟩
theorem CRes.bad {w w' : World} {B b : Nat} {lv : Value} {T : List Tk} {prop : Bool} {O O' : List It} {i' : Int} {ov : Value} {er l c : Int} {e : Ending} {p : PR} (hp : p = .bad er l c) (he : e = .returned (.bool false)) (h : CTook w w' B b lv T i' prop ov O' er l c) : CRes w B b lv T prop O p e w' := by
  subst hp; exact ⟨he, _, _, _, h⟩

set_option maxHeartbeats 1000000 in
theorem named_any {w : World} {B b : Nat} {lv : Value} {T : List Tk} {i : Int} {prop : Bool} {ov : Value} {O : List It} {line col : Int} (h : Cr w B b lv T i prop ov O 0 line col) (hB : B ≤ w.heap.size) (hlo : -9223372036854775808 ≤ i) (hhi : i ≤ 1900000) (hO : O.length ≤ 1000000) (op : Int) :
    Calls Tryz.prog 81 #[.pointer (some ⟨b, 0, none⟩), .int .i64 op] w (CRes w B b lv T prop O (namedP T i op)) := by
  have HR := Lib.hid h
  obtain ⟨x, hx⟩ : ∃ x, tkAt T (i + 1) = x := ⟨_, rfl⟩
  have HX := Lib.hid hx
  obtain ⟨_, c1, _, _, _, _, _⟩ := h.facts
  obtain ⟨f1, _, _, _, _⟩ := h.free
  have HM := Lib.hid ((CTook.of_rd h).moved (i + 1))
  have HN := Lib.hid (name_any HM.out.rd (Nat.le_trans hB HM.out.low.size) (by omega) (by omega))
  clear h hx
  by_cases hk : x.kind = 1
  · have HK := Lib.hid hk
    have HP : Hid (namedP T i op = .ok [⟨op, ⟨#[]⟩, 0, ⟨#[]⟩, 0, x.text, ⟨#[]⟩, x.line, x.col⟩] (i + 2)) := by unfold Hid namedP; rw [HX.out, if_pos hk]
    clear hk
    go_enter Tryz.func81, Tryz.ntmps81
    go_wp2_with fail
    refine HN.out.mono ?_
    rintro e w1 ⟨rfl, hok, -⟩
    obtain ⟨l, c, hc⟩ := hok (by rw [HX.out]; exact HK.out)
    rw [HX.out, HK.out]
    unfold tokV
    have HT := Lib.hid ((HM.out.trans hc).alloc hB (.cells #[.int .i64 x.kind, .string x.text, .int .i64 x.num, .int .i64 x.line, .int .i64 x.col] 54))
    clear hc hok
    simp only [decide_true]
    go_wp2_with fail
    refine (put_any HT.out.rd (Nat.le_trans hB HT.out.low.size) hO _ _ _ _ _ _ _ _ _ _ _).mono ?_
    rintro e w2 ⟨rfl, ov', hp⟩
    have HF := Lib.hid (HT.out.trans hp)
    clear hp
    go_wp2
    go_ret
    exact CRes.ok HP.out rfl (by have := HF.out; rwa [show i + 1 + 1 = i + 2 by omega] at this)
  · have HK := Lib.hid hk
    have HP : Hid (namedP T i op = .bad 4 x.line x.col) := by unfold Hid namedP badP; rw [HX.out, if_neg hk]
    clear hk
    go_enter Tryz.func81, Tryz.ntmps81
    go_wp2_with fail
    refine HN.out.mono ?_
    rintro e w1 ⟨rfl, -, hbad⟩
    have hc := hbad (by rw [HX.out]; exact HK.out)
    rw [HX.out] at hc
    rw [HX.out, decide_eq_false HK.out]
    unfold tokV
    have HT := Lib.hid ((HM.out.trans hc).alloc hB (.cells #[.int .i64 x.kind, .string x.text, .int .i64 x.num, .int .i64 x.line, .int .i64 x.col] 54))
    clear hc hbad
    go_wp2
    go_ret
    exact CRes.bad HP.out rfl HT.out

set_option maxHeartbeats 1600000 in
theorem did_any {w : World} {B b : Nat} {lv : Value} {T : List Tk} {i : Int} {prop : Bool} {ov : Value} {O : List It} {line col : Int} (h : Cr w B b lv T i prop ov O 0 line col) (hB : B ≤ w.heap.size) (hlo : -9223372036854775808 ≤ i) (hhi : i ≤ 1900000) (hO : O.length ≤ 1000000) :
    Calls Tryz.prog 82 #[.pointer (some ⟨b, 0, none⟩)] w (CRes w B b lv T prop O (didP T i)) := by
  have HR := Lib.hid h
  obtain ⟨x, hx⟩ : ∃ x, tkAt T (i + 1) = x := ⟨_, rfl⟩
  obtain ⟨y, hy⟩ : ∃ y, tkAt T (i + 2) = y := ⟨_, rfl⟩
  have HX := Lib.hid hx
  have HY := Lib.hid hy
  obtain ⟨_, c1, _, _, _, _, _⟩ := h.facts
  obtain ⟨f1, _, _, _, _⟩ := h.free
  have HM := Lib.hid ((CTook.of_rd h).moved (i + 1))
  have HN := Lib.hid (name_any HM.out.rd (Nat.le_trans hB HM.out.low.size) (by omega) (by omega))
  clear h hx hy
  by_cases hk : x.kind = 1
  · have HK := Lib.hid hk
    clear hk
    by_cases hk2 : y.kind = 1
    · have HK2 := Lib.hid hk2
      have HP : Hid (didP T i = .ok [⟨12, ⟨#[]⟩, 0, ⟨#[]⟩, 0, y.text, x.text, x.line, x.col⟩] (i + 3)) := by unfold Hid didP; rw [HX.out, HY.out, if_pos HK.out, if_pos hk2]
      clear hk2
      go_enter Tryz.func82, Tryz.ntmps82
      go_wp2_with fail
      refine HN.out.mono ?_
      rintro e w1 ⟨rfl, hok, -⟩
      obtain ⟨l, c, hc⟩ := hok (by rw [HX.out]; exact HK.out)
      rw [HX.out, HK.out]
      unfold tokV
      have HT := Lib.hid ((HM.out.trans hc).alloc hB (.cells #[.int .i64 x.kind, .string x.text, .int .i64 x.num, .int .i64 x.line, .int .i64 x.col] 54))
      have HN2 := Lib.hid (name_any HT.out.rd (Nat.le_trans hB HT.out.low.size) (by omega) (by omega))
      have HTK := Lib.hid (show TkB (w1.alloc (.cells #[.int .i64 x.kind, .string x.text, .int .i64 x.num, .int .i64 x.line, .int .i64 x.col] 54)) w1.heap.size x from heap_alloc_new w1 _)
      have hb1 := hc.rd.lt
      clear hc hok
      simp only [decide_true]
      go_wp2_with fail
      refine HN2.out.mono ?_
      rintro e w2 ⟨rfl, hok, -⟩
      rw [show i + 1 + 1 = i + 2 by omega] at hok ⊢
      obtain ⟨l2, c2, hc⟩ := hok (by rw [HY.out]; exact HK2.out)
      rw [HY.out, HK2.out]
      unfold tokV
      have hx2 := HTK.out.kept hc.kept (by omega)
      obtain ⟨t0, t1, t2, t3, t4⟩ := hx2.facts
      have hlx := hx2.lt
      have HT2 := Lib.hid ((HT.out.trans hc).alloc hB (.cells #[.int .i64 y.kind, .string y.text, .int .i64 y.num, .int .i64 y.line, .int .i64 y.col] 54))
      clear hc hok hx2
      simp only [decide_true]
      go_wp2_with fail
      refine (put_any HT2.out.rd (Nat.le_trans hB HT2.out.low.size) hO _ _ _ _ _ _ _ _ _ _ _).mono ?_
      rintro e w3 ⟨rfl, ov', hp⟩
      have HF := Lib.hid (HT2.out.trans hp)
      clear hp
      go_wp2
      go_ret
      exact CRes.ok HP.out rfl (by have := HF.out; rwa [show i + 2 + 1 = i + 3 by omega] at this)
    · have HK2 := Lib.hid hk2
      have HP : Hid (didP T i = .bad 4 y.line y.col) := by unfold Hid didP badP; rw [HX.out, HY.out, if_pos HK.out, if_neg hk2]
      clear hk2
      go_enter Tryz.func82, Tryz.ntmps82
      go_wp2_with fail
      refine HN.out.mono ?_
      rintro e w1 ⟨rfl, hok, -⟩
      obtain ⟨l, c, hc⟩ := hok (by rw [HX.out]; exact HK.out)
      rw [HX.out, HK.out]
      unfold tokV
      have HT := Lib.hid ((HM.out.trans hc).alloc hB (.cells #[.int .i64 x.kind, .string x.text, .int .i64 x.num, .int .i64 x.line, .int .i64 x.col] 54))
      have HN2 := Lib.hid (name_any HT.out.rd (Nat.le_trans hB HT.out.low.size) (by omega) (by omega))
      clear hc hok
      simp only [decide_true]
      go_wp2_with fail
      refine HN2.out.mono ?_
      rintro e w2 ⟨rfl, -, hbad⟩
      rw [show i + 1 + 1 = i + 2 by omega] at hbad ⊢
      have hc := hbad (by rw [HY.out]; exact HK2.out)
      rw [HY.out] at hc
      rw [HY.out, decide_eq_false HK2.out]
      unfold tokV
      have HT2 := Lib.hid ((HT.out.trans hc).alloc hB (.cells #[.int .i64 y.kind, .string y.text, .int .i64 y.num, .int .i64 y.line, .int .i64 y.col] 54))
      clear hc hbad
      go_wp2
      go_ret
      exact CRes.bad HP.out rfl HT2.out
  · have HK := Lib.hid hk
    have HP : Hid (didP T i = .bad 4 x.line x.col) := by unfold Hid didP badP; rw [HX.out, if_neg hk]
    clear hk
    go_enter Tryz.func82, Tryz.ntmps82
    go_wp2_with fail
    refine HN.out.mono ?_
    rintro e w1 ⟨rfl, -, hbad⟩
    have hc := hbad (by rw [HX.out]; exact HK.out)
    rw [HX.out] at hc
    rw [HX.out, decide_eq_false HK.out]
    unfold tokV
    have HT := Lib.hid ((HM.out.trans hc).alloc hB (.cells #[.int .i64 x.kind, .string x.text, .int .i64 x.num, .int .i64 x.line, .int .i64 x.col] 54))
    clear hc hbad
    go_wp2
    go_ret
    exact CRes.bad HP.out rfl HT.out

end Go.Proofs.YthhjepgcbfmfeaaGreatDoor

namespace Go.Proofs.YthhjepgcbfmfeaaGreatDoor
open Go.RowKit

theorem lit_eq (l : List UInt8) (s : ByteArray) : (l == s.toList) = decide (s = ⟨l.toArray⟩) := by
  rw [Bool.eq_iff_iff, decide_eq_true_iff, beq_iff_eq, ByteArray.toList_eq]
  constructor
  · intro h; exact ByteArray.ext (by rw [h])
  · intro h; rw [h]
theorem eq_lit (l : List UInt8) (s : ByteArray) : (s.toList == l) = decide (s = ⟨l.toArray⟩) := by
  rw [Bool.eq_iff_iff, decide_eq_true_iff, beq_iff_eq, ByteArray.toList_eq]
  constructor
  · intro h; exact ByteArray.ext (by rw [← h])
  · intro h; rw [h]

set_option maxHeartbeats 1600000 in
theorem temporal_any (s : ByteArray) (w : World) :
    Calls Tryz.prog 65 #[.string s] w fun e w' => e = .returned (.int .i64 (tempN s)) ∧ Below w.heap.size w w' := by
  have e1 := lit_eq [65, 88] s
  have e2 := lit_eq [69, 88] s
  have e3 := lit_eq [65, 70] s
  have e4 := lit_eq [69, 70] s
  have e5 := lit_eq [65, 71] s
  have e6 := lit_eq [69, 71] s
  by_cases h1 : s = ⟨#[65, 88]⟩
  · have HT : Hid (tempN s = 19) := by unfold Hid tempN; rw [if_pos h1]
    rw [decide_eq_true (by exact h1)] at e1
    clear h1 e2 e3 e4 e5 e6
    go_enter Tryz.func65, Tryz.ntmps65
    go_wp2
    refine wp_loop_rounds 1 ?_
    rw [rounds_succ]; go_wp2
    go_ret
    exact ⟨ret_int HT.out.symm, (Below.refl _ _).alloc (Nat.le_refl _) _⟩
  rw [decide_eq_false (by exact h1)] at e1
  by_cases h2 : s = ⟨#[69, 88]⟩
  · have HT : Hid (tempN s = 20) := by unfold Hid tempN; rw [if_neg h1, if_pos h2]
    rw [decide_eq_true (by exact h2)] at e2
    clear h1 h2 e3 e4 e5 e6
    go_enter Tryz.func65, Tryz.ntmps65
    go_wp2
    refine wp_loop_rounds 2 ?_
    rw [rounds_succ]; go_wp2
    rw [rounds_succ]; go_wp2
    go_ret
    exact ⟨ret_int HT.out.symm, (Below.refl _ _).alloc (Nat.le_refl _) _⟩
  rw [decide_eq_false (by exact h2)] at e2
  by_cases h3 : s = ⟨#[65, 70]⟩
  · have HT : Hid (tempN s = 21) := by unfold Hid tempN; rw [if_neg h1, if_neg h2, if_pos h3]
    rw [decide_eq_true (by exact h3)] at e3
    clear h1 h2 h3 e4 e5 e6
    go_enter Tryz.func65, Tryz.ntmps65
    go_wp2
    refine wp_loop_rounds 3 ?_
    rw [rounds_succ]; go_wp2
    rw [rounds_succ]; go_wp2
    rw [rounds_succ]; go_wp2
    go_ret
    exact ⟨ret_int HT.out.symm, (Below.refl _ _).alloc (Nat.le_refl _) _⟩
  rw [decide_eq_false (by exact h3)] at e3
  by_cases h4 : s = ⟨#[69, 70]⟩
  · have HT : Hid (tempN s = 22) := by unfold Hid tempN; rw [if_neg h1, if_neg h2, if_neg h3, if_pos h4]
    rw [decide_eq_true (by exact h4)] at e4
    clear h1 h2 h3 h4 e5 e6
    go_enter Tryz.func65, Tryz.ntmps65
    go_wp2
    refine wp_loop_rounds 4 ?_
    rw [rounds_succ]; go_wp2
    rw [rounds_succ]; go_wp2
    rw [rounds_succ]; go_wp2
    rw [rounds_succ]; go_wp2
    go_ret
    exact ⟨ret_int HT.out.symm, (Below.refl _ _).alloc (Nat.le_refl _) _⟩
  rw [decide_eq_false (by exact h4)] at e4
  by_cases h5 : s = ⟨#[65, 71]⟩
  · have HT : Hid (tempN s = 23) := by unfold Hid tempN; rw [if_neg h1, if_neg h2, if_neg h3, if_neg h4, if_pos h5]
    rw [decide_eq_true (by exact h5)] at e5
    clear h1 h2 h3 h4 h5 e6
    go_enter Tryz.func65, Tryz.ntmps65
    go_wp2
    refine wp_loop_rounds 5 ?_
    rw [rounds_succ]; go_wp2
    rw [rounds_succ]; go_wp2
    rw [rounds_succ]; go_wp2
    rw [rounds_succ]; go_wp2
    rw [rounds_succ]; go_wp2
    go_ret
    exact ⟨ret_int HT.out.symm, (Below.refl _ _).alloc (Nat.le_refl _) _⟩
  rw [decide_eq_false (by exact h5)] at e5
  by_cases h6 : s = ⟨#[69, 71]⟩
  · have HT : Hid (tempN s = 24) := by unfold Hid tempN; rw [if_neg h1, if_neg h2, if_neg h3, if_neg h4, if_neg h5, if_pos h6]
    rw [decide_eq_true (by exact h6)] at e6
    clear h1 h2 h3 h4 h5 h6
    go_enter Tryz.func65, Tryz.ntmps65
    go_wp2
    refine wp_loop_rounds 6 ?_
    rw [rounds_succ]; go_wp2
    rw [rounds_succ]; go_wp2
    rw [rounds_succ]; go_wp2
    rw [rounds_succ]; go_wp2
    rw [rounds_succ]; go_wp2
    rw [rounds_succ]; go_wp2
    go_ret
    exact ⟨ret_int HT.out.symm, (Below.refl _ _).alloc (Nat.le_refl _) _⟩
  · have HT : Hid (tempN s = 0) := by unfold Hid tempN; rw [if_neg h1, if_neg h2, if_neg h3, if_neg h4, if_neg h5, if_neg h6]
    rw [decide_eq_false (by exact h6)] at e6
    clear h1 h2 h3 h4 h5 h6
    go_enter Tryz.func65, Tryz.ntmps65
    go_wp2
    refine wp_loop_rounds 7 ?_
    rw [rounds_succ]; go_wp2
    rw [rounds_succ]; go_wp2
    rw [rounds_succ]; go_wp2
    rw [rounds_succ]; go_wp2
    rw [rounds_succ]; go_wp2
    rw [rounds_succ]; go_wp2
    rw [rounds_succ]; go_wp2
    go_ret
    exact ⟨ret_int HT.out.symm, (Below.refl _ _).alloc (Nat.le_refl _) _⟩

/-- a word in a block of its own -/
def WdB (w : World) (b : Nat) (n : ByteArray) (m : Int) : Prop := w.heap[b]? = some (.cells #[.string n, .int .i64 m] 37 (0, 0))
theorem WdB.facts {w : World} {b : Nat} {n : ByteArray} {m : Int} (h : WdB w b n m) : w.cell? ⟨b, 0, none⟩ = some (.string n) ∧ w.cell? ⟨b, 1, none⟩ = some (.int .i64 m) := by
  unfold WdB at h
  refine ⟨?_, ?_⟩ <;> simp [World.cell?, h]
theorem WdB.free {w : World} {b : Nat} {n : ByteArray} {m : Int} (h : WdB w b n m) : w.frozen? ⟨b, 0, none⟩ = false ∧ w.frozen? ⟨b, 1, none⟩ = false := by
  unfold WdB at h
  refine ⟨?_, ?_⟩ <;> simp [World.frozen?, h]
theorem WdB.stored {w : World} {b : Nat} {n n2 : ByteArray} {m m2 : Int} (h : WdB w b n m) : WdB ((w.setCell ⟨b, 0, none⟩ (.string n2)).setCell ⟨b, 1, none⟩ (.int .i64 m2)) b n2 m2 :=
  heap_setCell_same _ b 1 _ _ (.int .i64 m2) (heap_setCell_same w b 0 _ _ (.string n2) h)
theorem WdB.lt {w : World} {b : Nat} {n : ByteArray} {m : Int} (h : WdB w b n m) : b < w.heap.size := (Array.getElem?_eq_some_iff.1 h).1
theorem WdB.below {w w' : World} {b B : Nat} {n : ByteArray} {m : Int} (h : WdB w b n m) (hb : Below B w w') (hB : b < B) : WdB w' b n m := (hb.block b hB).trans h
theorem WdB.alloc {w : World} {b : Nat} {n : ByteArray} {m : Int} (h : WdB w b n m) (o : Obj) : WdB (w.alloc o) b n m := (Below.heap_alloc _ _ _ h.lt).trans h
theorem WdB.setOther {w : World} {b g j : Nat} {n : ByteArray} {m : Int} (h : WdB w b n m) (hne : g ≠ b) (u : Value) : WdB (w.setCell ⟨g, j, none⟩ u) b n m := (Below.heap_setCell _ _ _ _ (by show b ≠ g; omega)).trans h
theorem WdB.kept {w w' : World} {b k : Nat} {n : ByteArray} {m : Int} (h : WdB w k n m) (ht : Lib.OthersKept 39 (some b) w w') (hkb : k ≠ b) : WdB w' k n m :=
  ht k _ h (fun e => hkb (Option.some.inj e)) (fun c fz e => by simp at e)
/-- a store into a word of the step's own -/
theorem CTook.storedWord {w w1 : World} {B b : Nat} {lv : Value} {T : List Tk} {i : Int} {prop : Bool} {ov : Value} {O : List It} {er line col : Int} (h : CTook w w1 B b lv T i prop ov O er line col) {k : Nat} {n n2 : ByteArray} {m m2 : Int} (hx : WdB w1 k n m) (hk : w.heap.size ≤ k) (hb : b < w.heap.size) (hB : B ≤ w.heap.size) :
    CTook w ((w1.setCell ⟨k, 0, none⟩ (.string n2)).setCell ⟨k, 1, none⟩ (.int .i64 m2)) B b lv T i prop ov O er line col := by
  have one : ∀ (W : World) (cs : Array Value) (j : Nat) (u : Value), W.heap[k]? = some (.cells cs 37 (0, 0)) → CTook w W B b lv T i prop ov O er line col → CTook w (W.setCell ⟨k, j, none⟩ u) B b lv T i prop ov O er line col := by
    intro W cs j u hW h
    have hbb : Below B W (W.setCell ⟨k, j, none⟩ u) := (Below.refl B W).setCell (p := ⟨k, j, none⟩) (by show B ≤ k; omega) _
    refine ⟨⟨?_, h.rd.low, h.rd.tk.below hbb, row_store h.rd.out hW (by decide) j u⟩, h.low.trans hbb, ?_⟩
    · rw [Below.heap_setCell _ _ _ _ (by show b ≠ k; omega)]; exact h.rd.blk
    · intro q o hq hqb hqo
      rw [Below.heap_setCell _ _ _ _ (by show q ≠ k; have := (Array.getElem?_eq_some_iff.1 hq).1; omega)]
      exact h.kept q o hq hqb hqo
  exact one _ _ 1 _ (heap_setCell_same w1 k 0 _ _ (.string n2) hx) (one _ _ 0 _ hx h)

set_option maxHeartbeats 1000000 in
/-- word, where one stands -/
theorem word_ok {w : World} {B b : Nat} {lv : Value} {T : List Tk} {i : Int} {prop : Bool} {ov : Value} {O : List It} {line col : Int} (h : Cr w B b lv T i prop ov O 0 line col) (hB : B ≤ w.heap.size) (hlo : -9223372036854775808 ≤ i) (hhi : i ≤ 1900000) (hk : isWord (tkAt T i) = true) :
    Calls Tryz.prog 80 #[.pointer (some ⟨b, 0, none⟩)] w fun e w' => e = .returned (.tuple #[.agg #[.string (wordName (tkAt T i)), .int .i64 (wordNum (tkAt T i))], .bool true]) ∧ CTook w w' B b lv T (i + 1) prop ov O 0 line col := by
  have HR := Lib.hid h
  obtain ⟨x, hx⟩ : ∃ x, tkAt T i = x := ⟨_, rfl⟩
  have HX := Lib.hid hx
  rw [hx] at hk ⊢
  have HN := Lib.hid (now_any (HR.out.keep ((Below.refl _ _).alloc (Nat.le_refl _) (.cells #[.string ⟨#[]⟩, .int .i64 0] 37)) hB))
  have hbl := h.lt
  clear h hx
  have h13 : x.kind = 1 ∨ x.kind = 3 := by unfold isWord at hk; simpa using hk
  clear hk
  have fin : ∀ (n : ByteArray) (m : Int) (w1 : World), Below (w.alloc (.cells #[.string ⟨#[]⟩, .int .i64 0] 37)).heap.size (w.alloc (.cells #[.string ⟨#[]⟩, .int .i64 0] 37)) w1 →
      (w.heap.size < w1.heap.size ∧ b < w1.heap.size) ∧ (w1.cell? ⟨b, 1, none⟩ = some (.int .i64 i) ∧ w1.frozen? ⟨b, 1, none⟩ = false) ∧ (w1.cell? ⟨w.heap.size, 0, none⟩ = some (.string ⟨#[]⟩) ∧ w1.cell? ⟨w.heap.size, 1, none⟩ = some (.int .i64 0) ∧ w1.frozen? ⟨w.heap.size, 0, none⟩ = false ∧ w1.frozen? ⟨w.heap.size, 1, none⟩ = false) ∧
      Hid (∀ o, CTook w ((((w1.setCell ⟨b, 1, none⟩ (.int .i64 (i + 1))).setCell ⟨w.heap.size, 0, none⟩ (.string n)).setCell ⟨w.heap.size, 1, none⟩ (.int .i64 m)).alloc o) B b lv T (i + 1) prop ov O 0 line col ∧
        WdB ((((w1.setCell ⟨b, 1, none⟩ (.int .i64 (i + 1))).setCell ⟨w.heap.size, 0, none⟩ (.string n)).setCell ⟨w.heap.size, 1, none⟩ (.int .i64 m)).alloc o) w.heap.size n m) := by
    intro n m w1 hb1
    have HC := ((CTook.of_rd HR.out).alloc hB (.cells #[.string ⟨#[]⟩, .int .i64 0] 37)).then hb1 hB
    have hw0 : WdB w1 w.heap.size ⟨#[]⟩ 0 := (show WdB (w.alloc (.cells #[.string ⟨#[]⟩, .int .i64 0] 37)) w.heap.size ⟨#[]⟩ 0 from heap_alloc_new w _).below hb1 (by simp)
    have hw1 := hw0.setOther (g := b) (j := 1) (by omega) (.int .i64 (i + 1))
    obtain ⟨_, c1, _, _, _, _, _⟩ := HC.rd.facts
    obtain ⟨f1, _, _, _, _⟩ := HC.rd.free
    exact ⟨⟨hw0.lt, HC.rd.lt⟩, ⟨c1, f1⟩, ⟨hw0.facts.1, hw0.facts.2, hw0.free.1, hw0.free.2⟩, fun o => ⟨((HC.moved (i + 1)).storedWord hw1 (Nat.le_refl _) hbl hB).alloc hB o, hw1.stored.alloc o⟩⟩
  have FIN := Lib.hid fin
  clear fin
  rcases h13 with h1 | h1
  · have hkb : (x.kind == 1) = true := by rw [beq_iff_eq]; exact h1
    have HW : Hid (wordName x = x.text ∧ wordNum x = 0) := by unfold Hid wordName wordNum; rw [if_pos h1, if_pos h1]; exact ⟨rfl, rfl⟩
    clear h1
    go_enter Tryz.func80, Tryz.ntmps80
    go_wp2_with fail
    refine HN.out.mono ?_
    rintro e w1 ⟨rfl, hb1⟩
    rw [HX.out]
    unfold tokV
    obtain ⟨⟨g1, g2⟩, ⟨c1, f1⟩, ⟨r0, r1, r2, r3⟩, HM⟩ := FIN.out x.text 0 w1 hb1
    clear hb1
    go_wp2
    obtain ⟨q, d⟩ := HM.out (.cells #[.int .i64 x.kind, .string x.text, .int .i64 x.num, .int .i64 x.line, .int .i64 x.col] 54)
    obtain ⟨e0, e1⟩ := d.facts
    exact bodyPost_ret (v := .tuple #[.agg #[.string x.text, .int .i64 0], .bool true]) (by simp [results, Tryz.results80, go_sem, e0, e1]) rfl ⟨by rw [HW.out.1, HW.out.2], q⟩
  · have hkb : (x.kind == 1) = false := by rw [beq_eq_false_iff_ne]; omega
    have hkc : (x.kind == 3) = true := by rw [beq_iff_eq]; exact h1
    have HW : Hid (wordName x = ⟨#[]⟩ ∧ wordNum x = x.num) := by unfold Hid wordName wordNum; rw [if_neg (by omega), if_neg (by omega)]; exact ⟨rfl, rfl⟩
    clear h1
    go_enter Tryz.func80, Tryz.ntmps80
    go_wp2_with fail
    refine HN.out.mono ?_
    rintro e w1 ⟨rfl, hb1⟩
    rw [HX.out]
    unfold tokV
    obtain ⟨⟨g1, g2⟩, ⟨c1, f1⟩, ⟨r0, r1, r2, r3⟩, HM⟩ := FIN.out ⟨#[]⟩ x.num w1 hb1
    clear hb1
    go_wp2
    obtain ⟨q, d⟩ := HM.out (.cells #[.int .i64 x.kind, .string x.text, .int .i64 x.num, .int .i64 x.line, .int .i64 x.col] 54)
    obtain ⟨e0, e1⟩ := d.facts
    exact bodyPost_ret (v := .tuple #[.agg #[.string ⟨#[]⟩, .int .i64 x.num], .bool true]) (by simp [results, Tryz.results80, go_sem, e0, e1]) rfl ⟨by rw [HW.out.1, HW.out.2], q⟩

set_option maxHeartbeats 1000000 in
/-- word, where none stands -/
theorem word_bad {w : World} {B b : Nat} {lv : Value} {T : List Tk} {i : Int} {prop : Bool} {ov : Value} {O : List It} {line col : Int} (h : Cr w B b lv T i prop ov O 0 line col) (hB : B ≤ w.heap.size) (hk : isWord (tkAt T i) = false) :
    Calls Tryz.prog 80 #[.pointer (some ⟨b, 0, none⟩)] w fun e w' => e = .returned (.tuple #[.agg #[.string ⟨#[]⟩, .int .i64 0], .bool false]) ∧ CTook w w' B b lv T i prop ov O 4 (tkAt T i).line (tkAt T i).col := by
  have HR := Lib.hid h
  obtain ⟨x, hx⟩ : ∃ x, tkAt T i = x := ⟨_, rfl⟩
  have HX := Lib.hid hx
  rw [hx] at hk ⊢
  have HN := Lib.hid (now_any (HR.out.keep ((Below.refl _ _).alloc (Nat.le_refl _) (.cells #[.string ⟨#[]⟩, .int .i64 0] 37)) hB))
  have hbl := h.lt
  clear h hx
  have h13 : ¬ x.kind = 1 ∧ ¬ x.kind = 3 := by unfold isWord at hk; simpa using hk
  have hkb : (x.kind == 1) = false := by rw [beq_eq_false_iff_ne]; exact h13.1
  have hkc : (x.kind == 3) = false := by rw [beq_eq_false_iff_ne]; exact h13.2
  clear hk h13
  go_enter Tryz.func80, Tryz.ntmps80
  go_wp2_with fail
  refine HN.out.mono ?_
  rintro e w1 ⟨rfl, hb1⟩
  rw [HX.out]
  unfold tokV
  have HC := Lib.hid ((((CTook.of_rd HR.out).alloc hB (.cells #[.string ⟨#[]⟩, .int .i64 0] 37)).then hb1 hB).alloc hB (.cells #[.int .i64 x.kind, .string x.text, .int .i64 x.num, .int .i64 x.line, .int .i64 x.col] 54))
  have HW := Lib.hid (((show WdB (w.alloc (.cells #[.string ⟨#[]⟩, .int .i64 0] 37)) w.heap.size ⟨#[]⟩ 0 from heap_alloc_new w _).below hb1 (by simp)).alloc (.cells #[.int .i64 x.kind, .string x.text, .int .i64 x.num, .int .i64 x.line, .int .i64 x.col] 54))
  clear hb1
  go_wp2_with fail
  refine (cfail_any HC.out.rd (Nat.le_trans hB HC.out.low.size) 4 rfl).mono ?_
  rintro e w2 ⟨rfl, hc2⟩
  rw [HX.out] at hc2
  have hw2 := HW.out.kept hc2.kept (by omega)
  obtain ⟨r0, r1⟩ := hw2.facts
  obtain ⟨r2, r3⟩ := hw2.free
  have HF := Lib.hid ((HC.out.trans hc2).storedWord (n2 := ⟨#[]⟩) (m2 := 0) hw2 (Nat.le_refl _) hbl hB)
  have HE := Lib.hid (hw2.stored (n2 := ⟨#[]⟩) (m2 := 0)).facts
  clear hc2 hw2
  go_wp2
  obtain ⟨e0, e1⟩ := HE.out
  exact bodyPost_ret (v := .tuple #[.agg #[.string ⟨#[]⟩, .int .i64 0], .bool false]) (by simp [results, Tryz.results80, go_sem, e0, e1]) rfl ⟨rfl, HF.out⟩

end Go.Proofs.YthhjepgcbfmfeaaGreatDoor
