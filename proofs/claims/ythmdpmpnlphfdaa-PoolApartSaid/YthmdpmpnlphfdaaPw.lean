/- The pool in memory: contracts. -/
import Derived.Test.YthmdpmpnlphfdaaBz
import Derived.Test.YthmdpmpnlphfdaaPp
import Derived.Test.YthmdpmpnlphfdaaReg
import Derived.Below
import Derived.Deep.MidRow
import Derived.Deep.WholeRow
import Derived.Great.BuildSlice
import Derived.Lib.Hide
import Derived.OwnWalk
import Derived.WalkKit
import Derived.KernelRfl
import Derived.RowKit3
import Derived.Deep.LoopGhost
import Derived.Deep.QuietTactic
import Derived.BigQuiet
import Derived.WideLaws
import Derived.Outline
import Derived.Deep.DeepCutAuto
import Derived.Deep.CutBlock
import Derived.WalkSpells
import Derived.RegionTactic
import Derived.BigRegion
import Derived.WalkLawsBesides
namespace Go.Proofs.Ythmdpmpnlphfdaa
set_option linter.unusedVariables false
set_option linter.unusedSimpArgs false
open Go.RowKit Go.Proofs.YthmdpmpnlphfdaaW.PrintWords Go.Proofs.YthmdpmpnlphfdaaW.PrintLast Go.Proofs.YthmdpmpnlphfdaaW.PrintMore
namespace Bits
open Go.Bits Go.Pool
/-- Nothing but one block of the old ones was changed. -/
structure Only (b : Nat) (w w' : World) : Prop where
  os : w'.os = w.os
  tape : w'.tape = w.tape
  output : w'.output = w.output
  size : w.heap.size ≤ w'.heap.size
  block : ∀ k, k < w.heap.size → k ≠ b → w'.heap[k]? = w.heap[k]?
theorem Only.refl (b : Nat) (w : World) : Only b w w := ⟨rfl, rfl, rfl, Nat.le_refl _, fun _ _ _ => rfl⟩
theorem Only.trans {b : Nat} {x y z : World} (h : Only b x y) (k : Only b y z) : Only b x z :=
  ⟨k.os.trans h.os, k.tape.trans h.tape, k.output.trans h.output, Nat.le_trans h.size k.size, fun i hi hne => (k.block i (Nat.lt_of_lt_of_le hi h.size) hne).trans (h.block i hi hne)⟩
theorem Only.of_below {b : Nat} {x y : World} (h : Below x.heap.size x y) : Only b x y := ⟨h.os, h.tape, h.output, h.size, fun k hk _ => h.block k hk⟩
theorem Only.of_grown {b : Nat} {x y : World} (h : x.grownBy y (some b)) : Only b x y := ⟨h.os, h.tape, h.output, h.size, fun k hk hne => h.block k hk (by simpa using hne)⟩
theorem Only.alloc {b : Nat} {x y : World} (h : Only b x y) (o : Obj) : Only b x (y.alloc o) := h.trans (.of_below ((Below.refl _ _).alloc (Nat.le_refl _) _))
theorem Only.drewN {b : Nat} {x y : World} (h : Only b x y) (n : Nat) : Only b x (y.drewN n) := ⟨h.os, h.tape, h.output, h.size, h.block⟩
theorem Only.below {b B : Nat} {w0 x y : World} (h : Only b x y) (hB : Below B w0 x) (hb : B ≤ b) (hs : B ≤ x.heap.size) : Below B w0 y :=
  ⟨h.os.trans hB.os, h.tape.trans hB.tape, h.output.trans hB.output, Nat.le_trans hB.size h.size, fun k hk => (h.block k (by omega) (by omega)).trans (hB.block k hk)⟩
/-- A pool: its struct in one block, its set in another one. -/
structure PAt (w : World) (pb sb : Nat) (fr : Int) (l : List Bool) : Prop where
  cells : w.heap[pb]? = some (.cells #[.pointer (some ⟨sb, 0, none⟩), .int .i64 fr, .int .i64 l.length] 56 (0, 0))
  set : At w sb l
  low : 0 ≤ fr
  high : fr + l.length ≤ 1024
theorem PAt.ne {w : World} {pb sb : Nat} {fr : Int} {l : List Bool} (h : PAt w pb sb fr l) : pb ≠ sb := by
  rintro rfl
  obtain ⟨ws, hw, _⟩ := h.set
  have := h.cells.symm.trans hw
  simp at this
theorem PAt.lt {w : World} {pb sb : Nat} {fr : Int} {l : List Bool} (h : PAt w pb sb fr l) : pb < w.heap.size := (Array.getElem?_eq_some_iff.1 h.cells).1
theorem PAt.below {w w' : World} {pb sb : Nat} {fr : Int} {l : List Bool} (h : PAt w pb sb fr l) (hb : Below w.heap.size w w') : PAt w' pb sb fr l :=
  ⟨(hb.block pb h.lt).trans h.cells, h.set.below hb, h.low, h.high⟩
theorem PAt.grown {w w' : World} {pb sb : Nat} {fr : Int} {l l' : List Bool} (h : PAt w pb sb fr l) (ha : At w' sb l') (hl : l'.length = l.length) (hg : w.grownBy w' (some sb)) : PAt w' pb sb fr l' :=
  ⟨by rw [hg.block pb h.lt (by simpa using h.ne), hl]; exact h.cells, ha, h.low, by rw [hl]; exact h.high⟩
theorem PAt.len {w : World} {pb sb : Nat} {fr : Int} {l : List Bool} (h : PAt w pb sb fr l) : l.length ≤ 1024 := by
  have := h.low
  have := h.high
  omega
theorem PAt.c0 {w : World} {pb sb : Nat} {fr : Int} {l : List Bool} (h : PAt w pb sb fr l) : w.cell? ⟨pb, 0, none⟩ = some (.pointer (some ⟨sb, 0, none⟩)) := cell_blk h.cells
theorem PAt.c1 {w : World} {pb sb : Nat} {fr : Int} {l : List Bool} (h : PAt w pb sb fr l) : w.cell? ⟨pb, 1, none⟩ = some (.int .i64 fr) := cell_blk h.cells
theorem PAt.c2 {w : World} {pb sb : Nat} {fr : Int} {l : List Bool} (h : PAt w pb sb fr l) : w.cell? ⟨pb, 2, none⟩ = some (.int .i64 l.length) := cell_blk h.cells

set_option maxRecDepth 100000 in
theorem pool_of_no (fr up : Int) (w : World) (h : fr < 0 ∨ up < fr ∨ 1024 < up) :
    Calls Try.prog 6 #[.int .i64 fr, .int .i64 up] w fun e w' => e = .returned (.tuple #[.pointer none, .int .i64 1]) ∧ w = w' := by
  have hb : (decide (fr < 0) || decide (up < fr) || decide (1024 < up)) = true := by simp; omega
  by_cases h1 : fr < 0
  · go_enter Try.func6, Try.ntmps6
    go_wp2
    go_ret2
    exact ⟨rfl, rfl⟩
  · by_cases h2 : up < fr
    · go_enter Try.func6, Try.ntmps6
      go_wp2
      go_ret2
      exact ⟨rfl, rfl⟩
    · have h3 : 1024 < up := by omega
      go_enter Try.func6, Try.ntmps6
      go_wp2
      go_ret2
      exact ⟨rfl, rfl⟩
theorem says_empty (n : Nat) (h : n ≤ 4096) : Says (List.replicate 64 0) (List.replicate n false) := by
  refine ⟨by simp, fun x hx => ?_, by simpa using h, fun i hi => ?_⟩
  · rw [List.mem_replicate] at hx; omega
  · unfold mem
    have h1 : (List.replicate 64 0).getD (i / 64) 0 = 0 := by
      rw [List.getD_eq_getElem?_getD, List.getElem?_replicate]; split <;> rfl
    have h2 : (List.replicate n false).getD i false = false := by
      rw [List.getD_eq_getElem?_getD, List.getElem?_replicate]; split <;> rfl
    rw [h1, h2]; simp
theorem of_at (n : Nat) (w : World) (h : n ≤ 4096) :
    Calls Try.prog 19 #[.int .i64 n] w fun e w' => e = .returned (.tuple #[.pointer (some ⟨w.heap.size, 0, none⟩), .int .i64 0]) ∧ At w' w.heap.size (List.replicate n false) ∧ Below w.heap.size w w' := by
  refine (of_yes n w h).mono ?_
  rintro e w' ⟨rfl, rfl⟩
  refine ⟨rfl, ⟨List.replicate 64 0, ?_, says_empty n h⟩, (Below.refl _ _).alloc (Nat.le_refl _) _⟩
  rw [List.length_replicate]
  exact heap_alloc_new w _
theorem At.alloc' {w : World} {b : Nat} {l : List Bool} (h : At w b l) (o : Obj) : At (w.alloc o) b l := h.keep (heap_alloc_old w o h.lt)
set_option maxRecDepth 100000 in
theorem pool_of_yes (fr n : Nat) (w : World) (h : fr + n ≤ 1024) :
    Calls Try.prog 6 #[.int .i64 fr, .int .i64 ((fr : Int) + (n : Int))] w fun e w' => ∃ pb sb, e = .returned (.tuple #[.pointer (some ⟨pb, 0, none⟩), .int .i64 0]) ∧ PAt w' pb sb fr (List.replicate n false) ∧ Below w.heap.size w w' ∧ w.heap.size ≤ pb ∧ w.heap.size ≤ sb := by
  have hsub : (fr : Int) + (n : Int) - (fr : Int) = (n : Int) := by omega
  go_enter Try.func6, Try.ntmps6
  go_wp2_with fail
  refine (of_at n _ (by omega)).mono ?_
  rintro e w1 ⟨rfl, a, b⟩
  have HA := Lib.hid a
  have HB := Lib.hid b
  clear a b
  go_wp2_with fail
  go_ret2
  have ha := HA.out
  have hb := HB.out
  have hlt := ha.lt
  refine ⟨w1.heap.size, w.heap.size, rfl, ⟨?_, ha.alloc' _, by omega, by simp; omega⟩, hb.alloc hb.size _, hb.size, Nat.le_refl _⟩
  rw [List.length_replicate]
  exact heap_alloc_new w1 _
theorem count_free (l : List Bool) : (l.length : Int) - ((listL l).length : Int) = ((gaps l).length : Int) := by
  have := gaps_len l
  omega
set_option maxRecDepth 100000 in
theorem free_nil (w : World) : Calls Try.prog 14 #[.pointer none] w fun e w' => e = .returned (.int .i64 0) ∧ w = w' := by
  go_enter Try.func14, Try.ntmps14
  go_wp2
  go_ret
  exact ⟨rfl, rfl⟩
set_option maxRecDepth 100000 in
theorem free_any {pb sb : Nat} {fr : Int} {l : List Bool} (w : World) (h : PAt w pb sb fr l) :
    Calls Try.prog 14 #[.pointer (some ⟨pb, 0, none⟩)] w fun e w' => e = .returned (.int .i64 ((gaps l).length : Int)) ∧ Below w.heap.size w w' := by
  have HP := Lib.hid h
  have hsub := count_free l
  have hl := h.len
  have hg := gaps_len l
  clear h
  go_enter Try.func14, Try.ntmps14
  go_wp2_with fail
  refine Go.Reg.region (fun x => x = w.drew) [.s, .s, .s, .s, .s, .s, .s, .s, .s, .w, .s, .s] (by kernel_rfl) (by kernel_rfl) rfl (fun ne => ?_)
  have h0 : ∀ m : Go.Reg.In (fun x => x = w.drew), m.w.cell? ⟨pb, 0, none⟩ = some (.pointer (some ⟨sb, 0, none⟩)) := fun m => by rw [m.h]; exact HP.out.c0
  have h2 : ∀ m : Go.Reg.In (fun x => x = w.drew), m.w.cell? ⟨pb, 2, none⟩ = some (.int .i64 l.length) := fun m => by rw [m.h]; exact HP.out.c2
  refine Go.Reg.lex_q 9 _ _ _ _ (by rfl) ?_; simp only [List.take_succ_cons, List.take_zero, List.drop_succ_cons, List.drop_zero]; (repeat (go_big_quiet_step (rfl))); refine wpQuiet_nil ?_
  refine Go.Reg.step_w (fun K hK => ?_)
  go_wp2_with fail
  refine (count_any sb l w.drew HP.out.set).mono ?_
  rintro e w' ⟨rfl, rfl⟩
  go_wp2_with fail
  refine hK.out _ _ rfl ?_
  clear hK K
  refine Go.Reg.lex_q 2 _ _ _ _ (by rfl) ?_; simp only [List.take_succ_cons, List.take_zero, List.drop_succ_cons, List.drop_zero]; (repeat (go_big_quiet_step (rfl))); refine wpQuiet_nil ?_
  refine Go.Reg.lex_nil ?_
  go_wp2_with fail
  go_ret
  exact ⟨rfl, below_drew1 (Below.refl _ _)⟩
/-- Is a block taken? -/
def hasP (fr : Int) (l : List Bool) (b : Int) : Bool := decide (fr ≤ b) && (decide (b - fr < l.length) && hasL l (b - fr))
set_option maxRecDepth 100000 in
theorem pool_has_nil (b : Int) (w : World) : Calls Try.prog 18 #[.pointer none, .int .i64 b] w fun e w' => e = .returned (.bool false) ∧ Below w.heap.size w w' := by
  go_enter Try.func18, Try.ntmps18
  go_wp2_with fail
  refine Go.Reg.region (fun x => x = w.drew) [.s, .s, .s, .s, .s, .s, .s, .s, .s, .s, .s, .s, .s, .s, .s, .s, .s, .s, .s, .s, .s, .s, .s, .s, .s, .s, .s, .s, .s, .s, .s, .s, .s, .s, .s, .w, .s, .s] (by kernel_rfl) (by kernel_rfl) rfl (fun ne => ?_)
  refine Go.Reg.lex_q 35 _ _ _ _ (by rfl) ?_; simp only [List.take_succ_cons, List.take_zero, List.drop_succ_cons, List.drop_zero]; (repeat (go_big_quiet_step (rfl))); refine wpQuiet_nil ?_
  refine Go.Reg.step_w (fun K hK => ?_)
  go_wp2_with fail
  refine hK.out _ _ rfl ?_
  clear hK K
  refine Go.Reg.lex_q 2 _ _ _ _ (by rfl) ?_; simp only [List.take_succ_cons, List.take_zero, List.drop_succ_cons, List.drop_zero]; (repeat (go_big_quiet_step (rfl))); refine wpQuiet_nil ?_
  refine Go.Reg.lex_nil ?_
  go_wp2_with fail
  go_ret
  exact ⟨rfl, below_drew1 (Below.refl _ _)⟩
set_option maxRecDepth 100000 in
theorem pool_has_any {pb sb : Nat} {fr : Int} {l : List Bool} (b : Int) (w : World) (h : PAt w pb sb fr l) (hb : b ≤ 9223372036854775807) :
    Calls Try.prog 18 #[.pointer (some ⟨pb, 0, none⟩), .int .i64 b] w fun e w' => e = .returned (.bool (hasP fr l b)) ∧ Below w.heap.size w w' := by
  have HP := Lib.hid h
  have hl := h.len
  have hlow := h.low
  have hhigh := h.high
  clear h
  unfold hasP
  by_cases hb0 : fr ≤ b
  · by_cases hb1 : b - fr < l.length
    · have d0 : decide (fr ≤ b) = true := decide_eq_true hb0
      have d1 : decide (b - fr < (l.length : Int)) = true := decide_eq_true hb1
      rw [d0, d1, Bool.true_and, Bool.true_and]
      go_enter Try.func18, Try.ntmps18
      go_wp2_with fail
      refine Go.Reg.region (fun x => x = w.drew) [.s, .s, .s, .s, .s, .s, .s, .s, .s, .s, .s, .s, .s, .s, .s, .s, .s, .s, .s, .s, .s, .s, .s, .s, .s, .s, .s, .s, .s, .s, .s, .s, .s, .s, .s, .w, .s, .s] (by kernel_rfl) (by kernel_rfl) rfl (fun ne => ?_)
      have h0 : ∀ m : Go.Reg.In (fun x => x = w.drew), m.w.cell? ⟨pb, 0, none⟩ = some (.pointer (some ⟨sb, 0, none⟩)) := fun m => by rw [m.h]; exact HP.out.c0
      have h1 : ∀ m : Go.Reg.In (fun x => x = w.drew), m.w.cell? ⟨pb, 1, none⟩ = some (.int .i64 fr) := fun m => by rw [m.h]; exact HP.out.c1
      have h2 : ∀ m : Go.Reg.In (fun x => x = w.drew), m.w.cell? ⟨pb, 2, none⟩ = some (.int .i64 l.length) := fun m => by rw [m.h]; exact HP.out.c2
      refine Go.Reg.lex_q 35 _ _ _ _ (by rfl) ?_; simp only [List.take_succ_cons, List.take_zero, List.drop_succ_cons, List.drop_zero]; (repeat (go_big_quiet_step (rfl))); refine wpQuiet_nil ?_
      refine Go.Reg.step_w (fun K hK => ?_)
      go_wp2_with fail
      refine (has_any sb l (b - fr) w.drew HP.out.set).mono ?_
      rintro e w' ⟨rfl, rfl⟩
      go_wp2_with fail
      refine hK.out _ _ rfl ?_
      clear hK K
      refine Go.Reg.lex_q 2 _ _ _ _ (by rfl) ?_; simp only [List.take_succ_cons, List.take_zero, List.drop_succ_cons, List.drop_zero]; (repeat (go_big_quiet_step (rfl))); refine wpQuiet_nil ?_
      refine Go.Reg.lex_nil ?_
      go_wp2_with fail
      go_ret
      exact ⟨rfl, below_drew1 (Below.refl _ _)⟩
    · have d0 : decide (fr ≤ b) = true := decide_eq_true hb0
      have d1 : decide (b - fr < (l.length : Int)) = false := decide_eq_false hb1
      rw [d0, d1, Bool.true_and, Bool.false_and]
      go_enter Try.func18, Try.ntmps18
      go_wp2_with fail
      refine Go.Reg.region (fun x => x = w.drew) [.s, .s, .s, .s, .s, .s, .s, .s, .s, .s, .s, .s, .s, .s, .s, .s, .s, .s, .s, .s, .s, .s, .s, .s, .s, .s, .s, .s, .s, .s, .s, .s, .s, .s, .s, .w, .s, .s] (by kernel_rfl) (by kernel_rfl) rfl (fun ne => ?_)
      have h1 : ∀ m : Go.Reg.In (fun x => x = w.drew), m.w.cell? ⟨pb, 1, none⟩ = some (.int .i64 fr) := fun m => by rw [m.h]; exact HP.out.c1
      have h2 : ∀ m : Go.Reg.In (fun x => x = w.drew), m.w.cell? ⟨pb, 2, none⟩ = some (.int .i64 l.length) := fun m => by rw [m.h]; exact HP.out.c2
      refine Go.Reg.lex_q 35 _ _ _ _ (by rfl) ?_; simp only [List.take_succ_cons, List.take_zero, List.drop_succ_cons, List.drop_zero]; (repeat (go_big_quiet_step (rfl))); refine wpQuiet_nil ?_
      refine Go.Reg.step_w (fun K hK => ?_)
      go_wp2_with fail
      refine hK.out _ _ rfl ?_
      clear hK K
      refine Go.Reg.lex_q 2 _ _ _ _ (by rfl) ?_; simp only [List.take_succ_cons, List.take_zero, List.drop_succ_cons, List.drop_zero]; (repeat (go_big_quiet_step (rfl))); refine wpQuiet_nil ?_
      refine Go.Reg.lex_nil ?_
      go_wp2_with fail
      go_ret
      exact ⟨rfl, below_drew1 (Below.refl _ _)⟩
  · have d0 : decide (fr ≤ b) = false := decide_eq_false hb0
    rw [d0, Bool.false_and]
    go_enter Try.func18, Try.ntmps18
    go_wp2_with fail
    refine Go.Reg.region (fun x => x = w.drew) [.s, .s, .s, .s, .s, .s, .s, .s, .s, .s, .s, .s, .s, .s, .s, .s, .s, .s, .s, .s, .s, .s, .s, .s, .s, .s, .s, .s, .s, .s, .s, .s, .s, .s, .s, .w, .s, .s] (by kernel_rfl) (by kernel_rfl) rfl (fun ne => ?_)
    have h1 : ∀ m : Go.Reg.In (fun x => x = w.drew), m.w.cell? ⟨pb, 1, none⟩ = some (.int .i64 fr) := fun m => by rw [m.h]; exact HP.out.c1
    refine Go.Reg.lex_q 35 _ _ _ _ (by rfl) ?_; simp only [List.take_succ_cons, List.take_zero, List.drop_succ_cons, List.drop_zero]; (repeat (go_big_quiet_step (rfl))); refine wpQuiet_nil ?_
    refine Go.Reg.step_w (fun K hK => ?_)
    go_wp2_with fail
    refine hK.out _ _ rfl ?_
    clear hK K
    refine Go.Reg.lex_q 2 _ _ _ _ (by rfl) ?_; simp only [List.take_succ_cons, List.take_zero, List.drop_succ_cons, List.drop_zero]; (repeat (go_big_quiet_step (rfl))); refine wpQuiet_nil ?_
    refine Go.Reg.lex_nil ?_
    go_wp2_with fail
    go_ret
    exact ⟨rfl, below_drew1 (Below.refl _ _)⟩
set_option maxRecDepth 100000 in
theorem pool_clone_nil (w : World) : Calls Try.prog 16 #[.pointer none] w fun e w' => e = .returned (.pointer none) ∧ w = w' := by
  go_enter Try.func16, Try.ntmps16
  go_wp2
  go_ret
  exact ⟨rfl, rfl⟩
set_option maxRecDepth 100000 in
theorem pool_clone_any {pb sb : Nat} {fr : Int} {l : List Bool} (w : World) (h : PAt w pb sb fr l) :
    Calls Try.prog 16 #[.pointer (some ⟨pb, 0, none⟩)] w fun e w' => ∃ qb tb, e = .returned (.pointer (some ⟨qb, 0, none⟩)) ∧ PAt w' qb tb fr l ∧ Below w.heap.size w w' ∧ w.heap.size ≤ qb ∧ w.heap.size ≤ tb := by
  have HP := Lib.hid h
  clear h
  go_enter Try.func16, Try.ntmps16
  go_wp2_with fail
  refine Go.Reg.region (Below w.heap.size w) [.s, .s, .s, .s, .s, .w, .s, .s, .s, .s, .s, .s, .s, .s, .s, .s, .w, .s] (by kernel_rfl) (by kernel_rfl) (below_drew1 (Below.refl _ _)) (fun ne => ?_)
  have h0 : ∀ m : Go.Reg.In (Below w.heap.size w), m.w.cell? ⟨pb, 0, none⟩ = some (.pointer (some ⟨sb, 0, none⟩)) := fun m => (HP.out.below m.h).c0
  have h1 : ∀ m : Go.Reg.In (Below w.heap.size w), m.w.cell? ⟨pb, 1, none⟩ = some (.int .i64 fr) := fun m => (HP.out.below m.h).c1
  have h2 : ∀ m : Go.Reg.In (Below w.heap.size w), m.w.cell? ⟨pb, 2, none⟩ = some (.int .i64 l.length) := fun m => (HP.out.below m.h).c2
  refine Go.Reg.lex_q 5 _ _ _ _ (by rfl) ?_; simp only [List.take_succ_cons, List.take_zero, List.drop_succ_cons, List.drop_zero]; (repeat (go_big_quiet_step (rfl))); refine wpQuiet_nil ?_
  refine Go.Reg.step_w (fun K hK => ?_)
  go_wp2_with fail
  refine (clone_any sb l w.drew HP.out.set).mono ?_
  rintro e w2 ⟨rfl, a, b⟩
  have HA := Lib.hid a
  have HB := Lib.hid (show Below w.heap.size w w2 from (below_drew1 (Below.refl w.heap.size w)).trans b)
  clear a b
  go_wp2_with fail
  refine hK.out _ _ HB.out ?_
  clear hK K
  refine Go.Reg.lex_q 10 _ _ _ _ (by rfl) ?_; simp only [List.take_succ_cons, List.take_zero, List.drop_succ_cons, List.drop_zero]; (repeat (go_big_quiet_step (rfl))); refine wpQuiet_nil ?_
  refine Go.Reg.step_w (fun K hK => ?_)
  go_wp2_with fail
  refine hK.out _ _ (HB.out.alloc HB.out.size _) ?_
  clear hK K
  refine Go.Reg.lex_q 1 _ _ _ _ (by rfl) ?_; simp only [List.take_succ_cons, List.take_zero, List.drop_succ_cons, List.drop_zero]; (repeat (go_big_quiet_step (rfl))); refine wpQuiet_nil ?_
  refine Go.Reg.lex_nil ?_
  go_wp2_with fail
  go_ret
  have hp := HP.out
  exact ⟨w2.heap.size, w.heap.size, rfl, ⟨heap_alloc_new w2 _, HA.out.alloc' _, hp.low, hp.high⟩, HB.out.alloc HB.out.size _, HB.out.size, Nat.le_refl _⟩
end Bits
end Go.Proofs.Ythmdpmpnlphfdaa
