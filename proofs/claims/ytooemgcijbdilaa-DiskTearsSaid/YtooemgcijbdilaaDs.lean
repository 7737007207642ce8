/- The disk in memory: refusals, counts. -/
import Derived.Test.YtooemgcijbdilaaDq
import Derived.Below
import Derived.Lib.Hide
import Derived.OwnWalk
import Derived.WalkKit
import Derived.KernelRfl
import Derived.RowKit3
import Derived.Deep.LoopGhost
import Derived.Deep.QuietTactic
import Derived.BigQuiet
import Derived.WideLaws
import Derived.Great.BuildSlice
import Derived.Outline
import Derived.Deep.DeepCutAuto
import Derived.WalkSpells
import Derived.RegionTactic
import Derived.BigRegion
import Derived.WalkLawsBesides
namespace Go.Proofs.Ytooemgcijbdilaa
set_option linter.unusedVariables false
set_option linter.unusedSimpArgs false
open Go.RowKit Go.Proofs.YtooemgcijbdilaaW.PrintWords Go.Proofs.YtooemgcijbdilaaW.PrintLast Go.Proofs.YtooemgcijbdilaaW.PrintMore
namespace Disk
open Go.Disk PDiskDoes
set_option maxHeartbeats 8000000 in
set_option maxRecDepth 100000 in
theorem write_no {w : World} {base db sb : Nat} {D : Dk} (h : PD w base db sb D) (N : Int) (hr : ready D N ≠ 0) (A : Option Addr) (l c : Nat) :
    Calls Try.prog 10 #[.pointer (some ⟨db, 0, none⟩), .int .i64 N, .slice A l c] w fun e w' => e = .returned (.int .i64 (ready D N)) ∧ w' = w := by
  obtain ⟨r, hrr⟩ : ∃ r, r = ready D N := ⟨_, rfl⟩
  rw [← hrr] at hr ⊢
  have HR := Aside0.mk hrr
  clear hrr
  have hb : (r != 0) = true := by simpa using hr
  go_enter Try.func10, Try.ntmps10
  go_wp2_with fail
  refine (ready_any N h).mono ?_
  rintro e w1 ⟨rfl, rfl⟩
  rw [← HR.out]
  go_wp2_with fail
  go_ret
  exact ⟨rfl, rfl⟩
set_option maxHeartbeats 8000000 in
set_option maxRecDepth 100000 in
theorem write_size {w : World} {base db sb : Nat} {D : Dk} (h : PD w base db sb D) (N : Int) (hr : ready D N = 0) (A : Option Addr) (l c : Nat) (hl : l ≠ 256) :
    Calls Try.prog 10 #[.pointer (some ⟨db, 0, none⟩), .int .i64 N, .slice A l c] w fun e w' => e = .returned (.int .i64 11) ∧ w' = w := by
  have HR := Aside0.mk hr
  have hb : ((l : Int) != 256) = true := by simp; omega
  clear hr
  go_enter Try.func10, Try.ntmps10
  go_wp2_with fail
  refine (ready_any N h).mono ?_
  rintro e w1 ⟨rfl, rfl⟩
  rw [HR.out]
  go_wp2_with fail
  go_ret
  exact ⟨rfl, rfl⟩
set_option maxHeartbeats 8000000 in
set_option maxRecDepth 100000 in
theorem load_odd {w : World} (A : Option Addr) (l c : Nat) (hl : (l : Int) % 256 ≠ 0) :
    Calls Try.prog 22 #[.slice A l c] w fun e w' => e = .returned (.tuple #[.pointer none, .int .i64 11]) ∧ w' = w := by
  have hb : ((l : Int) % 256 != 0) = true := by simpa using hl
  go_enter Try.func22, Try.ntmps22
  go_wp2_with fail
  go_ret2
  exact ⟨rfl, rfl⟩
set_option maxHeartbeats 8000000 in
set_option maxRecDepth 100000 in
theorem flush_no {w : World} {base db sb : Nat} {D : Dk} (h : PD w base db sb D) (hr : ready D 0 ≠ 0) :
    Calls Try.prog 17 #[.pointer (some ⟨db, 0, none⟩)] w fun e w' => e = .returned (.int .i64 (ready D 0)) ∧ w' = w := by
  obtain ⟨r, hrr⟩ : ∃ r, r = ready D 0 := ⟨_, rfl⟩
  rw [← hrr] at hr ⊢
  have HR := Aside0.mk hrr
  clear hrr
  have hb : (r != 0) = true := by simpa using hr
  go_enter Try.func17, Try.ntmps17
  go_wp2_with fail
  refine (ready_any 0 h).mono ?_
  rintro e w1 ⟨rfl, rfl⟩
  rw [← HR.out]
  go_wp2_with fail
  go_ret
  exact ⟨rfl, rfl⟩
set_option maxHeartbeats 8000000 in
set_option maxRecDepth 100000 in
theorem flush_stop {w : World} {base db sb : Nat} {D : Dk} (h : PD w base db sb D) (hr : ready D 0 = 0) (hl : D.left = 0) :
    Calls Try.prog 17 #[.pointer (some ⟨db, 0, none⟩)] w fun e w' => e = .returned (.int .i64 9) ∧ PD w' base db sb (deedD D) ∧ FP base db sb w w' := by
  have HR := Aside0.mk hr
  have HL := Aside0.mk hl
  have HP := Aside0.mk h
  clear hr hl h
  go_enter Try.func17, Try.ntmps17
  go_wp2_with fail
  refine (ready_any 0 HP.out).mono ?_
  rintro e w1 ⟨rfl, rfl⟩
  rw [HR.out]
  go_wp2_with fail
  refine (deed_any HP.out).mono ?_
  rintro e w2 ⟨rfl, hp2, hf2⟩
  rw [if_pos HL.out]
  go_wp2_with fail
  go_ret
  exact ⟨rfl, hp2, hf2⟩
theorem results_c {P : Program} {fn : Func} {p : Tmp} {ty : TypeId} (h : fn.results = #[.cell p ty]) (tmps : Array Value) (w : World) (g : Nat) (t : TypeId) (cs : Array Value) (fr : Nat × Nat) (d : TypeDesc)
    (hp : tmps.getD p undef = .pointer (some ⟨g, 0, none⟩)) (hg : w.heap[g]? = some (.cells cs t fr))
    (hu : P.underlying ty = some d) (hd : (match d with | .struct _ | .array _ _ => true | _ => false) = true) (hi : (P.info? ty).map (·.size) = some cs.size) :
    (results fn tmps).run P w = .ok (.agg cs) w := by
  have hp' : tmps[p]?.getD undef = .pointer (some ⟨g, 0, none⟩) := by simpa using hp
  simp [results, h, hp', asAddr, run_loadVar_row w g t ty cs fr d hg hu hd hi]
set_option maxHeartbeats 8000000 in
set_option maxRecDepth 100000 in
theorem stat_any {w : World} {base db sb : Nat} {D : Dk} (h : PD w base db sb D) :
    Calls Try.prog 21 #[.pointer (some ⟨db, 0, none⟩)] w fun e w' => e = .returned (.agg #[.int .i64 D.reads, .int .i64 D.writes, .int .i64 D.flushes]) ∧ Below w.heap.size w w' := by
  obtain ⟨vw, cs, sp, h⟩ := h
  have HX := Aside0.mk h
  have hdl : db < w.heap.size := blk_lt h.cells
  clear h
  go_enter Try.func21, Try.ntmps21
  go_wp2_with fail
  obtain ⟨W, hW⟩ : ∃ W, W = w.alloc (.cells #[.int .i64 0, .int .i64 0, .int .i64 0] 51) := ⟨_, rfl⟩
  have hal : Below w.heap.size w W := by rw [hW]; exact (Below.refl _ _).alloc (Nat.le_refl _) _
  have hbx : W.heap[w.heap.size]? = some (.cells #[.int .i64 0, .int .i64 0, .int .i64 0] 51 (0, 0)) := by rw [hW]; exact heap_alloc_new w _
  rw [← hW]
  have HAL := Aside0.mk hal
  have HBX := Aside0.mk hbx
  have HXW := Aside0.mk (HX.out.below hal)
  clear hW hal hbx
  obtain ⟨CT, hCT⟩ : ∃ CT : Bool → World → Prop, ∀ d x, CT d x ↔ (Fr (fun k => k = w.heap.size) (fun _ _ => False) W x ∧ x.heap[w.heap.size]? = some (.cells (if d then #[.int .i64 D.reads, .int .i64 D.writes, .int .i64 D.flushes] else #[.int .i64 0, .int .i64 0, .int .i64 0]) 51 (0, 0))) := ⟨fun d x => _, fun _ _ => Iff.rfl⟩
  have HCT := Aside0.mk hCT
  clear hCT
  have hcell : ∀ d x, CT d x → x.cell? ⟨db, 4, none⟩ = some (.int .i64 D.reads) ∧ x.cell? ⟨db, 5, none⟩ = some (.int .i64 D.writes) ∧ x.cell? ⟨db, 6, none⟩ = some (.int .i64 D.flushes) := fun d x hx => by
    have h1 := ((HCT.out d x).1 hx).1.block db (Nat.lt_of_lt_of_le hdl HAL.out.size) (by omega) (fun _ _ _ _ h => h)
    have hb := h1.trans HXW.out.cells
    exact ⟨cell_blk hb, cell_blk hb, cell_blk hb⟩
  have HCE := Aside0.mk hcell
  clear hcell
  refine Go.Reg.region_t CT [false, false, false, false, false, false, false, false, false, false, false, false, false, false, false, false, true] (by kernel_rfl) (by kernel_rfl) ((HCT.out _ _).2 ⟨.of_below (below_drew1 (Below.refl _ _)), HBX.out⟩) (fun ne => ?_)
  refine Go.Reg.lexT_q 4 _ _ _ _ (by rfl) ?_; simp only [List.take_succ_cons, List.take_zero, List.drop_succ_cons, List.drop_zero]; (repeat (go_big_quiet_step (rfl))); refine wpQuiet_nil ?_
  refine Go.Reg.step_u (.int .i64 D.reads) (by rfl) (fun d x hx K hK => ?_) ?_
  · go_wp2_with fail
    refine (load_at x db 4 D.reads (HCE.out d x hx).1).mono ?_
    rintro e w5 ⟨rfl, rfl⟩
    go_wp2_with fail
    refine hK.out _ _ (by simp only [Act.put, List.setIfInBounds_toArray, List.set_cons_succ, List.set_cons_zero]) ?_
    simp only [List.headD_cons, Bool.or_false]
    exact hx
  simp only [Act.put, List.setIfInBounds_toArray, List.set_cons_succ, List.set_cons_zero, List.tail_cons, List.headD_cons, Bool.or_false]
  refine Go.Reg.lexT_q 4 _ _ _ _ (by rfl) ?_; simp only [List.take_succ_cons, List.take_zero, List.drop_succ_cons, List.drop_zero]; (repeat (go_big_quiet_step (rfl))); refine wpQuiet_nil ?_
  refine Go.Reg.step_u (.int .i64 D.writes) (by rfl) (fun d x hx K hK => ?_) ?_
  · go_wp2_with fail
    refine (load_at x db 5 D.writes (HCE.out d x hx).2.1).mono ?_
    rintro e w5 ⟨rfl, rfl⟩
    go_wp2_with fail
    refine hK.out _ _ (by simp only [Act.put, List.setIfInBounds_toArray, List.set_cons_succ, List.set_cons_zero]) ?_
    simp only [List.headD_cons, Bool.or_false]
    exact hx
  simp only [Act.put, List.setIfInBounds_toArray, List.set_cons_succ, List.set_cons_zero, List.tail_cons, List.headD_cons, Bool.or_false]
  refine Go.Reg.lexT_q 4 _ _ _ _ (by rfl) ?_; simp only [List.take_succ_cons, List.take_zero, List.drop_succ_cons, List.drop_zero]; (repeat (go_big_quiet_step (rfl))); refine wpQuiet_nil ?_
  refine Go.Reg.step_u (.int .i64 D.flushes) (by rfl) (fun d x hx K hK => ?_) ?_
  · go_wp2_with fail
    refine (load_at x db 6 D.flushes (HCE.out d x hx).2.2).mono ?_
    rintro e w5 ⟨rfl, rfl⟩
    go_wp2_with fail
    refine hK.out _ _ (by simp only [Act.put, List.setIfInBounds_toArray, List.set_cons_succ, List.set_cons_zero]) ?_
    simp only [List.headD_cons, Bool.or_false]
    exact hx
  simp only [Act.put, List.setIfInBounds_toArray, List.set_cons_succ, List.set_cons_zero, List.tail_cons, List.headD_cons, Bool.or_false]
  refine Go.Reg.lexT_q 1 _ _ _ _ (by rfl) ?_; simp only [List.take_succ_cons, List.take_zero, List.drop_succ_cons, List.drop_zero]; (repeat (go_big_quiet_step (rfl))); refine wpQuiet_nil ?_
  refine Go.Reg.step_u undef (by rfl) (fun d x hx K hK => ?_) ?_
  · obtain ⟨hf, hb⟩ := (HCT.out d x).1 hx
    have hn := blk_set (blk_set (blk_set hb 0 (.int .i64 D.reads)) 1 (.int .i64 D.writes)) 2 (.int .i64 D.flushes)
    have e0 : x.cell? ⟨w.heap.size, 0, none⟩ = some (if d then .int .i64 D.reads else .int .i64 0) := by cases d <;> exact cell_blk hb
    have e1 : x.cell? ⟨w.heap.size, 1, none⟩ = some (if d then .int .i64 D.writes else .int .i64 0) := by cases d <;> exact cell_blk hb
    have e2 : x.cell? ⟨w.heap.size, 2, none⟩ = some (if d then .int .i64 D.flushes else .int .i64 0) := by cases d <;> exact cell_blk hb
    have f0 : x.frozen? ⟨w.heap.size, 0, none⟩ = false := frozen_blk hb
    have f1 : x.frozen? ⟨w.heap.size, 1, none⟩ = false := frozen_blk hb
    have f2 : x.frozen? ⟨w.heap.size, 2, none⟩ = false := frozen_blk hb
    have HF := Aside0.mk hf
    have HN := Aside0.mk hn
    clear hf hb hn
    go_wp2_with fail
    refine hK.out _ _ (by simp only [Act.put]) ?_
    simp only [List.headD_cons, Bool.or_true]
    refine (HCT.out _ _).2 ⟨HF.out.trans (((Fr.set (bs := fun k => k = w.heap.size) x w.heap.size 0 _ rfl).trans (Fr.set (bs := fun k => k = w.heap.size) _ w.heap.size 1 _ rfl)).trans (Fr.set (bs := fun k => k = w.heap.size) _ w.heap.size 2 _ rfl)), ?_⟩
    rw [HN.out]
    cases d <;> rfl
  simp only [Act.put, List.setIfInBounds_toArray, List.set_cons_succ, List.set_cons_zero, List.tail_cons, List.headD_cons, Bool.or_true]
  refine Go.Reg.lexT_nil (fun w3 hw3 => ?_)
  go_wp2_with fail
  obtain ⟨hf, hb⟩ := (HCT.out true w3).1 hw3
  refine bodyPost_ret (results_c rfl _ _ w.heap.size 51 #[.int .i64 D.reads, .int .i64 D.writes, .int .i64 D.flushes] (0, 0) _ rfl hb Try.underlying51 rfl (by kernel_rfl)) rfl ?_
  have hw : Below w.heap.size w w3 := ⟨hf.os.trans HAL.out.os, hf.tape.trans HAL.out.tape, hf.output.trans HAL.out.output, Nat.le_trans HAL.out.size hf.size, fun k hk => (hf.block k (Nat.lt_of_lt_of_le hk HAL.out.size) (by omega) (fun _ _ _ _ h => h)).trans (HAL.out.block k hk)⟩
  exact ⟨rfl, hw⟩
end Disk
end Go.Proofs.Ytooemgcijbdilaa
