/- One deed with two disks that may have parted. -/
import Derived.Test.YtooemgcijbdilaaH7
import Derived.Below
import Derived.Lib.Hide
import Derived.OwnWalk
import Derived.WalkKit
import Derived.KernelRfl
import Derived.RowKit3
import Derived.Deep.LoopGhost
import Derived.Deep.QuietTactic
import Derived.BigQuiet
import Derived.WideLaws
import Derived.Great.BuildSlice
import Derived.Outline
import Derived.Deep.DeepCutAuto
import Derived.WalkSpells
import Derived.RegionTactic
import Derived.BigRegion
import Derived.WalkLawsBesides
namespace Go.Proofs.Ytooemgcijbdilaa
set_option linter.unusedVariables false
set_option linter.unusedSimpArgs false
open Go.RowKit Go.Proofs.YtooemgcijbdilaaW.PrintWords Go.Proofs.YtooemgcijbdilaaW.PrintLast Go.Proofs.YtooemgcijbdilaaW.PrintMore
namespace Disk
open Go.Disk PDiskDoes

def readF (D : Dk) (N : Int) : Dk := if ready D N = 0 then readD D else D
def readV (D : Dk) (N : Int) : List Int := if ready D N = 0 then nowD D N else []
theorem read_uni {w : World} {base db sb : Nat} {D : Dk} (h : PD w base db sb D) (N : Int) (hfew : D.waits.length ≤ 1000000000) :
    Calls Try.prog 13 #[.pointer (some ⟨db, 0, none⟩), .int .i64 N] w fun e w' => ∃ v, e = .returned (.tuple #[v, .int .i64 (ready D N)]) ∧ Kd.R (Kd.int .u8) 5 w' w.heap.size (fun _ => True) v (readV D N) ∧ PD w' base db sb (readF D N) ∧ FP base db sb w w' := by
  unfold readF readV
  by_cases hr : ready D N = 0
  · rw [if_pos hr, if_pos hr]
    refine (read_yes h N hr hfew).mono ?_
    rintro e w' ⟨v, he, hv, p, f⟩
    exact ⟨v, by rw [hr]; exact he, hv, p, f⟩
  · rw [if_neg hr, if_neg hr]
    refine (read_no h N hr).mono ?_
    rintro e w' ⟨he, rfl⟩
    exact ⟨_, he, Kd.R_nil _ _ _ _ _, h, .refl _ _ _⟩
theorem xread_uni {w : World} {base sb xb : Nat} {D : Dk} (h : RD w base sb xb D) (N : Int) (hfew : D.waits.length ≤ 1000000) :
    Calls Try.prog 38 #[.pointer (some ⟨xb, 0, none⟩), .int .i64 N] w fun e w' => ∃ v, e = .returned (.tuple #[v, .int .i64 (ready D N)]) ∧ Kd.R (Kd.int .u8) 5 w' w.heap.size (fun _ => True) v (readV D N) ∧ RD w' base sb xb (readF D N) ∧ FX base xb w w' := by
  unfold readF readV
  by_cases hr : ready D N = 0
  · rw [if_pos hr, if_pos hr]
    refine (xread_yes h N hr hfew).mono ?_
    rintro e w' ⟨v, he, hv, p, f⟩
    exact ⟨v, by rw [hr]; exact he, hv, p, f⟩
  · rw [if_neg hr, if_neg hr]
    refine (xread_no h N hr).mono ?_
    rintro e w' ⟨he, rfl⟩
    exact ⟨_, he, Kd.R_nil _ _ _ _ _, h, .refl _ _ _⟩
theorem write_ready {D : Dk} {N : Int} {bs : List Int} (hr : ready D N ≠ 0) : writeD D N bs = (D, ready D N) := by unfold writeD; rw [if_pos hr]
theorem write_long {D : Dk} {N : Int} {bs : List Int} (hr : ready D N = 0) (hl : bs.length ≠ 256) : writeD D N bs = (D, 11) := by unfold writeD; rw [if_neg (by omega), if_pos hl]
theorem write_uni {w : World} {base db sb : Nat} {D : Dk} (h : PD w base db sb D) (N : Int) (A : Option Addr) (c : Nat) (bs : List Int) (hby : ∀ x ∈ bs, 0 ≤ x ∧ x ≤ 255) (hC : ∀ x, Below w.heap.size w x → Kd.C (Kd.int .u8) x A bs.length bs) (hfew : D.waits.length ≤ 1000000) :
    Calls Try.prog 10 #[.pointer (some ⟨db, 0, none⟩), .int .i64 N, .slice A bs.length c] w fun e w' => e = .returned (.int .i64 (writeD D N bs).2) ∧ PD w' base db sb (writeD D N bs).1 ∧ FP base db sb w w' := by
  by_cases hr : ready D N = 0
  · by_cases hl : bs.length = 256
    · obtain ⟨a, rfl⟩ : ∃ a, A = some a := by obtain ⟨a, ha, _⟩ := (hC _ (Below.refl _ _)).2.2 (by omega); exact ⟨a, ha⟩
      exact write_yes h N hr a c bs hl hby hC hfew
    · rw [write_long hr hl]
      refine (write_size h N hr A _ c hl).mono ?_
      rintro e w' ⟨he, rfl⟩
      exact ⟨he, h, .refl _ _ _⟩
  · rw [write_ready hr]
    refine (write_no h N hr A _ c).mono ?_
    rintro e w' ⟨he, rfl⟩
    exact ⟨he, h, .refl _ _ _⟩
theorem xwrite_uni {w : World} {base sb xb : Nat} {D : Dk} (h : RD w base sb xb D) (N : Int) (A : Option Addr) (c : Nat) (bs : List Int) (hby : ∀ x ∈ bs, 0 ≤ x ∧ x ≤ 255) (hC : ∀ x, Below w.heap.size w x → Kd.C (Kd.int .u8) x A bs.length bs) (hfew : D.waits.length ≤ 1000000) :
    Calls Try.prog 40 #[.pointer (some ⟨xb, 0, none⟩), .int .i64 N, .slice A bs.length c] w fun e w' => e = .returned (.int .i64 (writeD D N bs).2) ∧ RD w' base sb xb (writeD D N bs).1 ∧ FX base xb w w' := by
  by_cases hr : ready D N = 0
  · by_cases hl : bs.length = 256
    · obtain ⟨a, rfl⟩ : ∃ a, A = some a := by obtain ⟨a, ha, _⟩ := (hC _ (Below.refl _ _)).2.2 (by omega); exact ⟨a, ha⟩
      exact xwrite_yes h N hr a c bs hl hby hC hfew
    · rw [write_long hr hl]
      refine (xwrite_size h N hr A _ c hl).mono ?_
      rintro e w' ⟨he, rfl⟩
      exact ⟨he, h, .refl _ _ _⟩
  · rw [write_ready hr]
    refine (xwrite_no h N hr A _ c).mono ?_
    rintro e w' ⟨he, rfl⟩
    exact ⟨he, h, .refl _ _ _⟩
def flushR (D : Dk) : Int := if ready D 0 ≠ 0 then ready D 0 else if D.left = 0 then 9 else 0
theorem flush_uni {w : World} {base db sb : Nat} {D : Dk} (h : PD w base db sb D) (hfew : D.waits.length ≤ 1000000) :
    Calls Try.prog 17 #[.pointer (some ⟨db, 0, none⟩)] w fun e w' => e = .returned (.int .i64 (flushR D)) ∧ PD w' base db sb (flushF D) ∧ FP base db sb w w' := by
  unfold flushR flushF
  by_cases hr : ready D 0 ≠ 0
  · rw [if_pos hr, if_pos hr]
    refine (flush_no h hr).mono ?_
    rintro e w' ⟨he, rfl⟩
    exact ⟨he, h, .refl _ _ _⟩
  · rw [if_neg hr, if_neg hr]
    have hr0 : ready D 0 = 0 := by omega
    by_cases hl : D.left = 0
    · rw [if_pos hl, if_pos hl]
      exact flush_stop h hr0 hl
    · rw [if_neg hl, if_neg hl]
      exact flush_yes h hr0 hl hfew
theorem xflush_uni {w : World} {base sb xb : Nat} {D : Dk} (h : RD w base sb xb D) (hfew : D.waits.length ≤ 1000000) :
    Calls Try.prog 41 #[.pointer (some ⟨xb, 0, none⟩)] w fun e w' => e = .returned (.int .i64 (flushR D)) ∧ RD w' base sb xb (flushF D) ∧ FX base xb w w' := by
  unfold flushR flushF
  have hor := off_ready h.ok
  by_cases hr : ready D 0 ≠ 0
  · rw [if_pos hr, if_pos hr]
    have ho : D.off = true := by
      cases hq : D.off with
      | true => rfl
      | false => rw [hq] at hor; exact absurd hor hr
    rw [ho] at hor
    refine (xflush_off h ho).mono ?_
    rintro e w' ⟨he, rfl⟩
    exact ⟨by rw [hor]; exact he, h, .refl _ _ _⟩
  · rw [if_neg hr, if_neg hr]
    have ho : D.off = false := by
      cases hq : D.off with
      | false => rfl
      | true => rw [hq] at hor; exact absurd hor (by simp at hr; rw [hr]; decide)
    by_cases hl : D.left = 0
    · rw [if_pos hl, if_pos hl]
      exact xflush_stop h ho hl
    · rw [if_neg hl, if_neg hl]
      exact xflush_yes h ho hl hfew
/-- Both disks, which may have parted. -/
structure Pair (w : World) (base db sb xb : Nat) (D X : Dk) : Prop where
  pd : PD w base db sb D
  rd : RD w base sb xb X
  bs : base ≤ w.heap.size
theorem Pair.low {w : World} {base db sb xb : Nat} {D X : Dk} (h : Pair w base db sb xb D X) : base ≤ db ∧ base ≤ sb ∧ base ≤ xb := by
  obtain ⟨⟨_, _, _, p⟩, ⟨_, _, r⟩, _⟩ := h
  exact ⟨p.dbase, p.sbase, r.xbase⟩
theorem Pair.lt {w : World} {base db sb xb : Nat} {D X : Dk} (h : Pair w base db sb xb D X) : db < w.heap.size ∧ sb < w.heap.size ∧ xb < w.heap.size := by
  obtain ⟨⟨_, _, _, p⟩, ⟨_, _, r⟩, _⟩ := h
  exact ⟨blk_lt p.cells, blk_lt p.safe, blk_lt r.cells⟩
theorem Pair.below {w w' : World} {base db sb xb : Nat} {D X : Dk} (h : Pair w base db sb xb D X) (b : Below w.heap.size w w') : Pair w' base db sb xb D X := ⟨h.pd.below b, h.rd.below b, Nat.le_trans h.bs b.size⟩
theorem Pair.fp {w w' : World} {base db sb xb : Nat} {D X : Dk} (h : Pair w base db sb xb D X) (f : FP base db sb w w') : RD w' base sb xb X := by
  obtain ⟨⟨_, _, _, p⟩, ⟨vs, vw, r⟩, _⟩ := h
  exact ⟨vs, vw, r.fp p.cells p.safe f⟩
set_option maxHeartbeats 8000000 in
set_option maxRecDepth 100000 in
theorem do2_write {w : World} {base db sb xb : Nat} {D X : Dk} (h : Pair w base db sb xb D X) (N : Int) (A : Option Addr) (bs : List Int) (c : Nat) (odd : Bool) (AM : Option Addr) (ms : List Int) (cm : Nat) (hC : ∀ x, Below base w x → Kd.C (Kd.int .u8) x A bs.length bs) (hc : bs.length ≤ c) (hby : ∀ x ∈ bs, 0 ≤ x ∧ x ≤ 255) (hfew : D.waits.length ≤ 1000000) (hfewX : X.waits.length ≤ 1000000) :
    Calls Try.prog 16 #[.pointer (some ⟨db, 0, none⟩), .pointer (some ⟨xb, 0, none⟩), .agg #[.int .i64 2, .int .i64 N, .slice A bs.length c, .bool odd, .slice AM ms.length cm]] w fun e w' => (∃ b : Bool, e = .returned (.bool b)) ∧ Pair w' base db sb xb (writeD D N (dat odd bs)).1 (writeD X N (dat odd bs)).1 ∧ FB base db sb xb w w' ∧ w.heap.size < w'.heap.size := by
  have HC := Aside0.mk hC
  have HBY := Aside0.mk hby
  clear hC hby
  obtain ⟨r, hrr⟩ : ∃ r, r = (writeD D N (dat odd bs)).2 := ⟨_, rfl⟩
  have HRR := Aside0.mk hrr
  clear hrr
  obtain ⟨q, hqq⟩ : ∃ r, r = (writeD X N (dat odd bs)).2 := ⟨_, rfl⟩
  have HQQ := Aside0.mk hqq
  clear hqq
  have hal : Below w.heap.size w (w.alloc (.cells #[.int .i64 2, .int .i64 N, .slice A bs.length c, .bool odd, .slice AM ms.length cm] 45)) := (Below.refl _ _).alloc (Nat.le_refl _) _
  obtain ⟨W, hW⟩ : ∃ W, W = w.alloc (.cells #[.int .i64 2, .int .i64 N, .slice A bs.length c, .bool odd, .slice AM ms.length cm] 45) := ⟨_, rfl⟩
  have HP := Aside0.mk (h.below hal)
  have HAL := Aside0.mk (show Below w.heap.size w W by rw [hW]; exact hal)
  have HF0 := Aside0.mk (show FB base db sb xb w W by rw [hW]; exact FB.of_below hal)
  have HWE := Aside0.mk hW
  have HGT := Aside0.mk (show w.heap.size < W.heap.size by rw [hW]; simp)
  have HBX := Aside0.mk (show W.heap[w.heap.size]? = some (.cells #[.int .i64 2, .int .i64 N, .slice A bs.length c, .bool odd, .slice AM ms.length cm] 45 (0, 0)) by rw [hW]; exact heap_alloc_new w _)
  have HLT := Aside0.mk h.lt
  have HLOW := Aside0.mk h.low
  have HBS := Aside0.mk h.bs
  clear h hal
  rw [← hW] at HP
  have hm0 : ∀ m : Go.Reg.In (fun x : World => x.heap[w.heap.size]? = some (.cells #[.int .i64 2, .int .i64 N, .slice A bs.length c, .bool odd, .slice AM ms.length cm] 45 (0, 0))), m.w.cell? ⟨w.heap.size, 0, none⟩ = some (.int .i64 2) := fun m => cell_blk m.h
  have hm1 : ∀ m : Go.Reg.In (fun x : World => x.heap[w.heap.size]? = some (.cells #[.int .i64 2, .int .i64 N, .slice A bs.length c, .bool odd, .slice AM ms.length cm] 45 (0, 0))), m.w.cell? ⟨w.heap.size, 1, none⟩ = some (.int .i64 N) := fun m => cell_blk m.h
  have hm2 : ∀ m : Go.Reg.In (fun x : World => x.heap[w.heap.size]? = some (.cells #[.int .i64 2, .int .i64 N, .slice A bs.length c, .bool odd, .slice AM ms.length cm] 45 (0, 0))), m.w.cell? ⟨w.heap.size, 2, none⟩ = some (.slice A bs.length c) := fun m => cell_blk m.h
  have hm3 : ∀ m : Go.Reg.In (fun x : World => x.heap[w.heap.size]? = some (.cells #[.int .i64 2, .int .i64 N, .slice A bs.length c, .bool odd, .slice AM ms.length cm] 45 (0, 0))), m.w.cell? ⟨w.heap.size, 3, none⟩ = some (.bool odd) := fun m => cell_blk m.h
  have hm4 : ∀ m : Go.Reg.In (fun x : World => x.heap[w.heap.size]? = some (.cells #[.int .i64 2, .int .i64 N, .slice A bs.length c, .bool odd, .slice AM ms.length cm] 45 (0, 0))), m.w.cell? ⟨w.heap.size, 4, none⟩ = some (.slice AM ms.length cm) := fun m => cell_blk m.h
  have HKB := Aside0.mk (show ∀ x y : World, x.heap[w.heap.size]? = some (.cells #[.int .i64 2, .int .i64 N, .slice A bs.length c, .bool odd, .slice AM ms.length cm] 45 (0, 0)) → FB base db sb xb x y → y.heap[w.heap.size]? = some (.cells #[.int .i64 2, .int .i64 N, .slice A bs.length c, .bool odd, .slice AM ms.length cm] 45 (0, 0)) from fun x y hx f => (f.block _ (blk_lt hx) (by rintro (h | h | h) <;> (have := HLT.out; omega)) (fun c' t fz hc' => by rw [hx] at hc'; cases hc'; rintro ⟨_, h | h | h⟩ <;> exact absurd h (by decide))).trans hx)
  clear hW
  go_enter Try.func16, Try.ntmps16
  go_wp2_with fail
  rw [← HWE.out]
  refine Go.Reg.region (fun x : World => x.heap[w.heap.size]? = some (.cells #[.int .i64 2, .int .i64 N, .slice A bs.length c, .bool odd, .slice AM ms.length cm] 45 (0, 0))) [.s, .s, .s, .s, .w, .w, .s, .s, .s, .s, .w, .w, .s, .s] (by kernel_rfl) (by kernel_rfl) (show W.drew.heap[w.heap.size]? = _ from HBX.out) (fun ne => ?_)
  refine Go.Reg.lex_q 4 _ _ _ _ (by rfl) ?_; simp only [List.take_succ_cons, List.take_zero, List.drop_succ_cons, List.drop_zero]; (repeat (go_big_quiet_step (rfl))); refine wpQuiet_nil ?_
  refine Go.Reg.step_w (fun K hK => ?_)
  go_wp2_with fail
  have HW1 := Aside0.mk (below_drew1 (Below.refl W.heap.size W))
  refine (data_any (base := base) 2 N A bs c odd AM ms.length cm (fun x hx => HC.out x (((HAL.out.trans (HW1.out.mono HAL.out.size)).mono HBS.out).trans hx)) hc HP.out.bs).mono ?_
  rintro e w2 ⟨A2, c2, rfl, hC2, b2⟩
  have HC2 := Aside0.mk hC2
  have HP2 := Aside0.mk (HP.out.below (HW1.out.trans b2))
  have HF2 := Aside0.mk (show FB base db sb xb W w2 from FB.of_below (HW1.out.trans b2))
  clear hC2 b2
  go_wp2_with fail
  refine hK.out _ _ (HKB.out _ _ HBX.out HF2.out) ?_
  clear hK K
  try simp only [Act.put, List.setIfInBounds_toArray, List.set_cons_succ, List.set_cons_zero]
  refine Go.Reg.step_w (fun K hK => ?_)
  go_wp2_with fail
  refine (write_uni HP2.out.pd N A2 c2 (dat odd bs) (dat_mem odd bs HBY.out) HC2.out hfew).mono ?_
  rintro e w3 ⟨rfl, p3, fp3⟩
  rw [← HRR.out]
  have HP3 := Aside0.mk p3
  have HX3 := Aside0.mk (HP2.out.fp fp3)
  have f3 : FB base db sb xb w2 w3 := FB.of_fp fp3
  clear p3 fp3
  have HF3 := Aside0.mk (HF2.out.trans f3)
  clear f3
  go_wp2_with fail
  refine hK.out _ _ (HKB.out _ _ HBX.out HF3.out) ?_
  clear hK K
  try simp only [Act.put, List.setIfInBounds_toArray, List.set_cons_succ, List.set_cons_zero]
  refine Go.Reg.lex_q 4 _ _ _ _ (by rfl) ?_; simp only [List.take_succ_cons, List.take_zero, List.drop_succ_cons, List.drop_zero]; (repeat (go_big_quiet_step (rfl))); refine wpQuiet_nil ?_
  refine Go.Reg.step_w (fun K hK => ?_)
  go_wp2_with fail
  have hbw := FB.below (HF0.out.trans HF3.out) HLOW.out.1 HLOW.out.2.1 HLOW.out.2.2 HBS.out
  refine (data_any (base := base) 2 N A bs c odd AM ms.length cm (fun x hx => HC.out x (hbw.trans hx)) hc (Nat.le_trans HBS.out hbw.size)).mono ?_
  rintro e w4 ⟨A4, c4, rfl, hC4, b4⟩
  have HC4 := Aside0.mk hC4
  have HP4 := Aside0.mk (HP3.out.below b4)
  have HX4 := Aside0.mk (HX3.out.below b4)
  have HF4 := Aside0.mk (HF3.out.trans (FB.of_below (db := db) (sb := sb) (xb := xb) b4))
  clear hC4 b4 hbw HP3 HX3
  go_wp2_with fail
  refine hK.out _ _ (HKB.out _ _ HBX.out HF4.out) ?_
  clear hK K
  try simp only [Act.put, List.setIfInBounds_toArray, List.set_cons_succ, List.set_cons_zero]
  refine Go.Reg.step_w (fun K hK => ?_)
  go_wp2_with fail
  refine (xwrite_uni HX4.out N A4 c4 (dat odd bs) (dat_mem odd bs HBY.out) HC4.out hfewX).mono ?_
  rintro e w5 ⟨rfl, p5, fx5⟩
  rw [← HQQ.out]
  have HP5 := Aside0.mk (PD.fx HP4.out HX4.out fx5)
  have HX5 := Aside0.mk p5
  have f5 : FB base db sb xb w4 w5 := FB.of_fx fx5
  clear p5 fx5
  have HF5 := Aside0.mk (HF4.out.trans f5)
  clear f5
  go_wp2_with fail
  refine hK.out _ _ (HKB.out _ _ HBX.out HF5.out) ?_
  clear hK K
  try simp only [Act.put, List.setIfInBounds_toArray, List.set_cons_succ, List.set_cons_zero]
  refine Go.Reg.lex_q 2 _ _ _ _ (by rfl) ?_; simp only [List.take_succ_cons, List.take_zero, List.drop_succ_cons, List.drop_zero]; (repeat (go_big_quiet_step (rfl))); refine wpQuiet_nil ?_
  refine Go.Reg.lex_nil ?_
  clear hm0 hm1 hm2 hm3 hm4
  go_wp2_with fail
  go_ret
  exact ⟨⟨_, rfl⟩, ⟨HP5.out, HX5.out, Nat.le_trans HP.out.bs HF5.out.size⟩, HF0.out.trans HF5.out, Nat.lt_of_lt_of_le HGT.out (Fr.size HF5.out)⟩
set_option maxHeartbeats 8000000 in
set_option maxRecDepth 100000 in
theorem do2_read {w : World} {base db sb xb : Nat} {D X : Dk} (h : Pair w base db sb xb D X) (N : Int) (A : Option Addr) (l c : Nat) (odd : Bool) (AM : Option Addr) (lm cm : Nat) (hfew : D.waits.length ≤ 1000000) (hfewX : X.waits.length ≤ 1000000) :
    Calls Try.prog 16 #[.pointer (some ⟨db, 0, none⟩), .pointer (some ⟨xb, 0, none⟩), .agg #[.int .i64 1, .int .i64 N, .slice A l c, .bool odd, .slice AM lm cm]] w fun e w' => (∃ b : Bool, e = .returned (.bool b)) ∧ Pair w' base db sb xb (readF D N) (readF X N) ∧ FB base db sb xb w w' ∧ w.heap.size < w'.heap.size := by
  have hal : Below w.heap.size w (w.alloc (.cells #[.int .i64 1, .int .i64 N, .slice A l c, .bool odd, .slice AM lm cm] 45)) := (Below.refl _ _).alloc (Nat.le_refl _) _
  obtain ⟨W, hW⟩ : ∃ W, W = w.alloc (.cells #[.int .i64 1, .int .i64 N, .slice A l c, .bool odd, .slice AM lm cm] 45) := ⟨_, rfl⟩
  have HP := Aside0.mk (h.below hal)
  have HF0 := Aside0.mk (show FB base db sb xb w W by rw [hW]; exact FB.of_below hal)
  have HWE := Aside0.mk hW
  have HGT := Aside0.mk (show w.heap.size < W.heap.size by rw [hW]; simp)
  have HBX := Aside0.mk (show W.heap[w.heap.size]? = some (.cells #[.int .i64 1, .int .i64 N, .slice A l c, .bool odd, .slice AM lm cm] 45 (0, 0)) by rw [hW]; exact heap_alloc_new w _)
  have HLT := Aside0.mk h.lt
  clear h hal
  rw [← hW] at HP
  obtain ⟨r, hrr⟩ : ∃ r, r = ready D N := ⟨_, rfl⟩
  have HRR := Aside0.mk hrr
  clear hrr
  obtain ⟨q, hqq⟩ : ∃ r, r = ready X N := ⟨_, rfl⟩
  have HQQ := Aside0.mk hqq
  clear hqq hW
  go_enter Try.func16, Try.ntmps16
  go_wp2_with fail
  rw [← HWE.out]
  refine (read_uni HP.out.pd N (by omega)).mono ?_
  rintro e w2 ⟨v, rfl, hrv, p2, f2⟩
  rw [← HRR.out]
  have HRV := Aside0.mk hrv
  have HP2 := Aside0.mk p2
  have HX2 := Aside0.mk (HP.out.fp f2)
  have HF2 := Aside0.mk f2
  have cb : w2.heap[w.heap.size]? = _ := (f2.block _ (blk_lt HBX.out) (by rintro (h | h) <;> (have := HLT.out; omega)) (fun c t fz hc' => by rw [HBX.out] at hc'; cases hc'; exact fun h => absurd h.2 (by decide))).trans HBX.out
  have c1 : w2.cell? ⟨w.heap.size, 1, none⟩ = some (.int .i64 N) := cell_blk cb
  clear hrv p2 f2
  go_wp2_with fail
  refine (xread_uni HX2.out N hfewX).mono ?_
  rintro e w3 ⟨v3, rfl, hrv3, p3, f3⟩
  rw [← HQQ.out]
  have HF3 := Aside0.mk f3
  have HP3 := Aside0.mk (PD.fx HP2.out HX2.out f3)
  have HX3 := Aside0.mk p3
  have HRV2 := Aside0.mk (u8_fb HRV.out (FB.of_fx (db := db) (sb := sb) f3) (by have := HLT.out; have := HF0.out.size; omega) (by have := HLT.out; have := HF0.out.size; omega) (by have := HLT.out; have := HF0.out.size; omega))
  have HRV3 := Aside0.mk hrv3
  clear hrv3 p3 f3 c1 cb
  obtain ⟨A2, c2, rfl⟩ := Kd.R_slice HRV2.out
  obtain ⟨A3, c3, rfl⟩ := Kd.R_slice HRV3.out
  obtain ⟨T, hT⟩ : ∃ T, T = strOfNums (readV D N) := ⟨_, rfl⟩
  obtain ⟨U, hU⟩ : ∃ T, T = strOfNums (readV X N) := ⟨_, rfl⟩
  have s2 : (convert 30 9 (.slice A2 (readV D N).length c2)).run Try.prog w3 = .ok (.string T) w3 := by rw [hT]; exact Kd.C_string Try.underlying30 Try.underlying5 Try.underlying9 (row_at HRV2.out)
  have s3 : (convert 30 9 (.slice A3 (readV X N).length c3)).run Try.prog w3 = .ok (.string U) w3 := by rw [hU]; exact Kd.C_string Try.underlying30 Try.underlying5 Try.underlying9 (row_at HRV3.out)
  clear hT hU
  have fin : ∀ b : Bool, (∃ b' : Bool, Ending.returned (Value.bool b) = .returned (.bool b')) ∧ Pair w3 base db sb xb (readF D N) (readF X N) ∧ FB base db sb xb w w3 ∧ w.heap.size < w3.heap.size := fun b => ⟨⟨b, rfl⟩, ⟨HP3.out, HX3.out, Nat.le_trans HP.out.bs (Nat.le_trans HF2.out.size HF3.out.size)⟩, HF0.out.trans ((FB.of_fp HF2.out).trans (FB.of_fx HF3.out)), Nat.lt_of_lt_of_le HGT.out (Fr.size ((FB.of_fp (xb := xb) HF2.out).trans (FB.of_fx HF3.out)))⟩
  have HFIN := Aside0.mk fin
  clear fin
  go_wp2_with fail
  all_goals
    go_ret
    exact HFIN.out _
set_option maxHeartbeats 8000000 in
set_option maxRecDepth 100000 in
theorem do2_flush {w : World} {base db sb xb : Nat} {D X : Dk} (h : Pair w base db sb xb D X) (N : Int) (A : Option Addr) (bs : List Int) (c : Nat) (odd : Bool) (AM : Option Addr) (ms : List Int) (cm : Nat) (hfew : D.waits.length ≤ 1000000) (hfewX : X.waits.length ≤ 1000000) :
    Calls Try.prog 16 #[.pointer (some ⟨db, 0, none⟩), .pointer (some ⟨xb, 0, none⟩), .agg #[.int .i64 3, .int .i64 N, .slice A bs.length c, .bool odd, .slice AM ms.length cm]] w fun e w' => (∃ b : Bool, e = .returned (.bool b)) ∧ Pair w' base db sb xb (flushF D) (flushF X) ∧ FB base db sb xb w w' ∧ w.heap.size < w'.heap.size := by
  obtain ⟨r, hrr⟩ : ∃ r, r = flushR D := ⟨_, rfl⟩
  have HRR := Aside0.mk hrr
  clear hrr
  obtain ⟨q, hqq⟩ : ∃ r, r = flushR X := ⟨_, rfl⟩
  have HQQ := Aside0.mk hqq
  clear hqq
  have hal : Below w.heap.size w (w.alloc (.cells #[.int .i64 3, .int .i64 N, .slice A bs.length c, .bool odd, .slice AM ms.length cm] 45)) := (Below.refl _ _).alloc (Nat.le_refl _) _
  obtain ⟨W, hW⟩ : ∃ W, W = w.alloc (.cells #[.int .i64 3, .int .i64 N, .slice A bs.length c, .bool odd, .slice AM ms.length cm] 45) := ⟨_, rfl⟩
  have HP := Aside0.mk (h.below hal)
  have HAL := Aside0.mk (show Below w.heap.size w W by rw [hW]; exact hal)
  have HF0 := Aside0.mk (show FB base db sb xb w W by rw [hW]; exact FB.of_below hal)
  have HWE := Aside0.mk hW
  have HGT := Aside0.mk (show w.heap.size < W.heap.size by rw [hW]; simp)
  have HBX := Aside0.mk (show W.heap[w.heap.size]? = some (.cells #[.int .i64 3, .int .i64 N, .slice A bs.length c, .bool odd, .slice AM ms.length cm] 45 (0, 0)) by rw [hW]; exact heap_alloc_new w _)
  have HLT := Aside0.mk h.lt
  have HLOW := Aside0.mk h.low
  have HBS := Aside0.mk h.bs
  clear h hal
  rw [← hW] at HP
  clear hW
  go_enter Try.func16, Try.ntmps16
  go_wp2_with fail
  rw [← HWE.out]
  refine (flush_uni HP.out.pd hfew).mono ?_
  rintro e w2 ⟨rfl, p2, fp2⟩
  rw [← HRR.out]
  have HX2 := Aside0.mk (HP.out.fp fp2)
  have HP2 := Aside0.mk p2
  have f2 : FB base db sb xb W w2 := FB.of_fp fp2
  clear p2 fp2
  have HF2 := Aside0.mk f2
  clear f2
  go_wp2_with fail
  refine (xflush_uni HX2.out hfewX).mono ?_
  rintro e w3 ⟨rfl, p3, fx3⟩
  rw [← HQQ.out]
  have HP3 := Aside0.mk (PD.fx HP2.out HX2.out fx3)
  have HX3 := Aside0.mk p3
  have f3 : FB base db sb xb w2 w3 := FB.of_fx fx3
  clear p3 fx3
  have HF3 := Aside0.mk (HF2.out.trans f3)
  clear f3
  go_wp2_with fail
  go_ret
  exact ⟨⟨_, rfl⟩, ⟨HP3.out, HX3.out, Nat.le_trans HP.out.bs HF3.out.size⟩, HF0.out.trans HF3.out, Nat.lt_of_lt_of_le HGT.out (Fr.size HF3.out)⟩
set_option maxHeartbeats 8000000 in
set_option maxRecDepth 100000 in
theorem do2_stop {w : World} {base db sb xb : Nat} {D X : Dk} (h : Pair w base db sb xb D X) (N : Int) (A : Option Addr) (bs : List Int) (c : Nat) (odd : Bool) (AM : Option Addr) (ms : List Int) (cm : Nat) (hN : N ≤ 9223372036854775807) :
    Calls Try.prog 16 #[.pointer (some ⟨db, 0, none⟩), .pointer (some ⟨xb, 0, none⟩), .agg #[.int .i64 4, .int .i64 N, .slice A bs.length c, .bool odd, .slice AM ms.length cm]] w fun e w' => (∃ b : Bool, e = .returned (.bool b)) ∧ Pair w' base db sb xb (if N < 0 then D else stopD D N) (if N < 0 then X else stopD X N) ∧ FB base db sb xb w w' ∧ w.heap.size < w'.heap.size := by
  have hal : Below w.heap.size w (w.alloc (.cells #[.int .i64 4, .int .i64 N, .slice A bs.length c, .bool odd, .slice AM ms.length cm] 45)) := (Below.refl _ _).alloc (Nat.le_refl _) _
  obtain ⟨W, hW⟩ : ∃ W, W = w.alloc (.cells #[.int .i64 4, .int .i64 N, .slice A bs.length c, .bool odd, .slice AM ms.length cm] 45) := ⟨_, rfl⟩
  have HP := Aside0.mk (h.below hal)
  have HAL := Aside0.mk (show Below w.heap.size w W by rw [hW]; exact hal)
  have HF0 := Aside0.mk (show FB base db sb xb w W by rw [hW]; exact FB.of_below hal)
  have HWE := Aside0.mk hW
  have HGT := Aside0.mk (show w.heap.size < W.heap.size by rw [hW]; simp)
  have HBX := Aside0.mk (show W.heap[w.heap.size]? = some (.cells #[.int .i64 4, .int .i64 N, .slice A bs.length c, .bool odd, .slice AM ms.length cm] 45 (0, 0)) by rw [hW]; exact heap_alloc_new w _)
  have HLT := Aside0.mk h.lt
  have HLOW := Aside0.mk h.low
  have HBS := Aside0.mk h.bs
  clear h hal
  rw [← hW] at HP
  have HKB := Aside0.mk (show ∀ x y : World, x.heap[w.heap.size]? = some (.cells #[.int .i64 4, .int .i64 N, .slice A bs.length c, .bool odd, .slice AM ms.length cm] 45 (0, 0)) → FB base db sb xb x y → y.heap[w.heap.size]? = some (.cells #[.int .i64 4, .int .i64 N, .slice A bs.length c, .bool odd, .slice AM ms.length cm] 45 (0, 0)) from fun x y hx f => (f.block _ (blk_lt hx) (by rintro (h | h | h) <;> (have := HLT.out; omega)) (fun c' t fz hc' => by rw [hx] at hc'; cases hc'; rintro ⟨_, h | h | h⟩ <;> exact absurd h (by decide))).trans hx)
  clear hW
  have hm1 : ∀ m : Go.Reg.In (fun x : World => x.heap[w.heap.size]? = some (.cells #[.int .i64 4, .int .i64 N, .slice A bs.length c, .bool odd, .slice AM ms.length cm] 45 (0, 0))), m.w.cell? ⟨w.heap.size, 1, none⟩ = some (.int .i64 N) := fun m => cell_blk m.h
  obtain ⟨r, hr⟩ : ∃ r : Int, r = (if N < 0 then 1 else 0) := ⟨_, rfl⟩
  have HR := Aside0.mk hr
  clear hr
  obtain ⟨D', hD'⟩ : ∃ D', D' = (if N < 0 then D else stopD D N) := ⟨_, rfl⟩
  rw [← hD']
  have HD := Aside0.mk hD'
  obtain ⟨X', hX'⟩ : ∃ D', D' = (if N < 0 then X else stopD X N) := ⟨_, rfl⟩
  rw [← hX']
  have HXD := Aside0.mk hX'
  clear hD' hX'
  go_enter Try.func16, Try.ntmps16
  go_wp2_with fail
  rw [← HWE.out]
  refine Go.Reg.region (fun x : World => x.heap[w.heap.size]? = some (.cells #[.int .i64 4, .int .i64 N, .slice A bs.length c, .bool odd, .slice AM ms.length cm] 45 (0, 0))) [.s, .s, .s, .w, .s, .s, .s, .w, .s, .s] (by kernel_rfl) (by kernel_rfl) (show W.drew.heap[w.heap.size]? = _ from HBX.out) (fun ne => ?_)
  refine Go.Reg.lex_q 3 _ _ _ _ (by rfl) ?_; simp only [List.take_succ_cons, List.take_zero, List.drop_succ_cons, List.drop_zero]; (repeat (go_big_quiet_step (rfl))); refine wpQuiet_nil ?_
  refine Go.Reg.step_w (fun K hK => ?_)
  go_wp2_with fail
  have HW1 := Aside0.mk (below_drew1 (Below.refl W.heap.size W))
  refine (stop_any N (HP.out.pd.below HW1.out) hN).mono ?_
  rintro e w2 ⟨rfl, p2, fp2⟩
  rw [← HR.out]
  have HX2 := Aside0.mk ((HP.out.below HW1.out).fp fp2)
  rw [← HD.out] at p2
  have HP2 := Aside0.mk p2
  have HF2 := Aside0.mk ((FB.of_below (db := db) (sb := sb) (xb := xb) HW1.out).trans (FB.of_fp fp2))
  clear p2 fp2
  go_wp2_with fail
  refine hK.out _ _ (HKB.out _ _ HBX.out HF2.out) ?_
  clear hK K
  try simp only [Act.put, List.setIfInBounds_toArray, List.set_cons_succ, List.set_cons_zero]
  refine Go.Reg.lex_q 3 _ _ _ _ (by rfl) ?_; simp only [List.take_succ_cons, List.take_zero, List.drop_succ_cons, List.drop_zero]; (repeat (go_big_quiet_step (rfl))); refine wpQuiet_nil ?_
  refine Go.Reg.step_w (fun K hK => ?_)
  go_wp2_with fail
  refine (xstop_any N HX2.out hN).mono ?_
  rintro e w3 ⟨rfl, p3, fx3⟩
  rw [← HR.out]
  have HP3 := Aside0.mk (PD.fx HP2.out HX2.out fx3)
  rw [← HXD.out] at p3
  have HX3 := Aside0.mk p3
  have HF3 := Aside0.mk (HF2.out.trans (FB.of_fx fx3))
  clear p3 fx3
  go_wp2_with fail
  refine hK.out _ _ (HKB.out _ _ HBX.out HF3.out) ?_
  clear hK K
  try simp only [Act.put, List.setIfInBounds_toArray, List.set_cons_succ, List.set_cons_zero]
  refine Go.Reg.lex_q 2 _ _ _ _ (by rfl) ?_; simp only [List.take_succ_cons, List.take_zero, List.drop_succ_cons, List.drop_zero]; (repeat (go_big_quiet_step (rfl))); refine wpQuiet_nil ?_
  refine Go.Reg.lex_nil ?_
  clear hm1
  go_wp2_with fail
  go_ret
  exact ⟨⟨_, rfl⟩, ⟨HP3.out, HX3.out, Nat.le_trans HP.out.bs HF3.out.size⟩, HF0.out.trans HF3.out, Nat.lt_of_lt_of_le HGT.out (Fr.size HF3.out)⟩
set_option maxHeartbeats 8000000 in
set_option maxRecDepth 100000 in
theorem do2_crash {w : World} {base db sb xb : Nat} {D X : Dk} (h : Pair w base db sb xb D X) (N : Int) (A : Option Addr) (bs : List Int) (c : Nat) (odd : Bool) (AM : Option Addr) (ms : List Int) (cm : Nat) (hM : ∀ x, Below base w x → Kd.C (Kd.int .i64) x AM ms.length ms) (hcm : ms.length ≤ cm) :
    Calls Try.prog 16 #[.pointer (some ⟨db, 0, none⟩), .pointer (some ⟨xb, 0, none⟩), .agg #[.int .i64 5, .int .i64 N, .slice A bs.length c, .bool odd, .slice AM ms.length cm]] w fun e w' => (∃ b : Bool, e = .returned (.bool b)) ∧ Pair w' base db sb xb (crashD D ms) (crashD X ms) ∧ FB base db sb xb w w' ∧ w.heap.size < w'.heap.size := by
  have HM := Aside0.mk hM
  clear hM
  have hal : Below w.heap.size w (w.alloc (.cells #[.int .i64 5, .int .i64 N, .slice A bs.length c, .bool odd, .slice AM ms.length cm] 45)) := (Below.refl _ _).alloc (Nat.le_refl _) _
  obtain ⟨W, hW⟩ : ∃ W, W = w.alloc (.cells #[.int .i64 5, .int .i64 N, .slice A bs.length c, .bool odd, .slice AM ms.length cm] 45) := ⟨_, rfl⟩
  have HP := Aside0.mk (h.below hal)
  have HAL := Aside0.mk (show Below w.heap.size w W by rw [hW]; exact hal)
  have HF0 := Aside0.mk (show FB base db sb xb w W by rw [hW]; exact FB.of_below hal)
  have HWE := Aside0.mk hW
  have HGT := Aside0.mk (show w.heap.size < W.heap.size by rw [hW]; simp)
  have HBX := Aside0.mk (show W.heap[w.heap.size]? = some (.cells #[.int .i64 5, .int .i64 N, .slice A bs.length c, .bool odd, .slice AM ms.length cm] 45 (0, 0)) by rw [hW]; exact heap_alloc_new w _)
  have HLT := Aside0.mk h.lt
  have HLOW := Aside0.mk h.low
  have HBS := Aside0.mk h.bs
  clear h hal
  rw [← hW] at HP
  have HKB := Aside0.mk (show ∀ x y : World, x.heap[w.heap.size]? = some (.cells #[.int .i64 5, .int .i64 N, .slice A bs.length c, .bool odd, .slice AM ms.length cm] 45 (0, 0)) → FB base db sb xb x y → y.heap[w.heap.size]? = some (.cells #[.int .i64 5, .int .i64 N, .slice A bs.length c, .bool odd, .slice AM ms.length cm] 45 (0, 0)) from fun x y hx f => (f.block _ (blk_lt hx) (by rintro (h | h | h) <;> (have := HLT.out; omega)) (fun c' t fz hc' => by rw [hx] at hc'; cases hc'; rintro ⟨_, h | h | h⟩ <;> exact absurd h (by decide))).trans hx)
  clear hW
  go_enter Try.func16, Try.ntmps16
  go_wp2_with fail
  rw [← HWE.out]
  have HBW := Aside0.mk (show Below base w W from HAL.out.mono HBS.out)
  refine (crash_any HP.out.pd AM cm ms (HM.out _ HBW.out) hcm (fun x hx => HM.out _ (HBW.out.trans ⟨hx.os, hx.tape, hx.output, hx.size, fun k hk => hx.block k (Nat.lt_of_lt_of_le hk HP.out.bs) (by have := HLOW.out; omega) (fun _ _ _ _ h => h)⟩))).mono ?_
  rintro e w2 ⟨⟨v2, rfl⟩, p2, fp2⟩
  have HX2 := Aside0.mk (HP.out.fp fp2)
  have HP2 := Aside0.mk p2
  have HF2 := Aside0.mk (show FB base db sb xb W w2 from FB.of_fp fp2)
  have c4 : w2.cell? ⟨w.heap.size, 4, none⟩ = some (.slice AM ms.length cm) := cell_blk (HKB.out _ _ HBX.out HF2.out)
  clear p2 fp2
  go_wp2_with fail
  have HBW2 := Aside0.mk (HBW.out.trans (FB.below HF2.out HLOW.out.1 HLOW.out.2.1 HLOW.out.2.2 HP.out.bs))
  refine (xcrash_any HX2.out AM cm ms (HM.out _ HBW2.out) (fun x hx => HM.out _ (HBW2.out.trans (FB.below (FB.of_fx (db := db) (sb := sb) hx) HLOW.out.1 HLOW.out.2.1 HLOW.out.2.2 (Nat.le_trans HBS.out HBW2.out.size))))).mono ?_
  rintro e w3 ⟨⟨v3, rfl⟩, p3, fx3⟩
  have HP3 := Aside0.mk (PD.fx HP2.out HX2.out fx3)
  have HX3 := Aside0.mk p3
  have HF3 := Aside0.mk (HF2.out.trans (FB.of_fx fx3))
  clear p3 fx3 c4
  go_wp2_with fail
  go_ret
  exact ⟨⟨_, rfl⟩, ⟨HP3.out, HX3.out, Nat.le_trans HP.out.bs HF3.out.size⟩, HF0.out.trans HF3.out, Nat.lt_of_lt_of_le HGT.out (Fr.size HF3.out)⟩
set_option maxHeartbeats 8000000 in
set_option maxRecDepth 100000 in
theorem do2_else {w : World} {base db sb xb : Nat} {D X : Dk} (h : Pair w base db sb xb D X) (K : Int) (N : Int) (A : Option Addr) (bs : List Int) (c : Nat) (odd : Bool) (AM : Option Addr) (ms : List Int) (cm : Nat) (h1 : (K == 1) = false) (h2 : (K == 2) = false) (h3 : (K == 3) = false) (h4 : (K == 4) = false) (h5 : (K == 5) = false) :
    Calls Try.prog 16 #[.pointer (some ⟨db, 0, none⟩), .pointer (some ⟨xb, 0, none⟩), .agg #[.int .i64 K, .int .i64 N, .slice A bs.length c, .bool odd, .slice AM ms.length cm]] w fun e w' => (∃ b : Bool, e = .returned (.bool b)) ∧ Pair w' base db sb xb D X ∧ FB base db sb xb w w' ∧ w.heap.size < w'.heap.size := by
  have hal : Below w.heap.size w (w.alloc (.cells #[.int .i64 K, .int .i64 N, .slice A bs.length c, .bool odd, .slice AM ms.length cm] 45)) := (Below.refl _ _).alloc (Nat.le_refl _) _
  obtain ⟨W, hW⟩ : ∃ W, W = w.alloc (.cells #[.int .i64 K, .int .i64 N, .slice A bs.length c, .bool odd, .slice AM ms.length cm] 45) := ⟨_, rfl⟩
  have HP := Aside0.mk (h.below hal)
  have HAL := Aside0.mk (show Below w.heap.size w W by rw [hW]; exact hal)
  have HF0 := Aside0.mk (show FB base db sb xb w W by rw [hW]; exact FB.of_below hal)
  have HWE := Aside0.mk hW
  have HGT := Aside0.mk (show w.heap.size < W.heap.size by rw [hW]; simp)
  have HBX := Aside0.mk (show W.heap[w.heap.size]? = some (.cells #[.int .i64 K, .int .i64 N, .slice A bs.length c, .bool odd, .slice AM ms.length cm] 45 (0, 0)) by rw [hW]; exact heap_alloc_new w _)
  have HLT := Aside0.mk h.lt
  have HLOW := Aside0.mk h.low
  have HBS := Aside0.mk h.bs
  clear h hal
  rw [← hW] at HP
  clear hW
  go_enter Try.func16, Try.ntmps16
  go_wp2_with fail
  rw [← HWE.out]
  go_ret
  exact ⟨⟨_, rfl⟩, HP.out, HF0.out, HGT.out⟩
theorem do2_any {w : World} {base db sb xb : Nat} {D X : Dk} (h : Pair w base db sb xb D X) (K N : Int) (A : Option Addr) (bs : List Int) (c : Nat) (odd : Bool) (AM : Option Addr) (ms : List Int) (cm : Nat) (hC : ∀ x, Below base w x → Kd.C (Kd.int .u8) x A bs.length bs) (hc : bs.length ≤ c) (hby : ∀ x ∈ bs, 0 ≤ x ∧ x ≤ 255)
    (hM : ∀ x, Below base w x → Kd.C (Kd.int .i64) x AM ms.length ms) (hcm : ms.length ≤ cm) (hN : N ≤ 9223372036854775807) (hfew : D.waits.length ≤ 1000000) (hfewX : X.waits.length ≤ 1000000) :
    Calls Try.prog 16 #[.pointer (some ⟨db, 0, none⟩), .pointer (some ⟨xb, 0, none⟩), .agg #[.int .i64 K, .int .i64 N, .slice A bs.length c, .bool odd, .slice AM ms.length cm]] w fun e w' => (∃ b : Bool, e = .returned (.bool b)) ∧ Pair w' base db sb xb (doD D K N bs odd ms) (doD X K N bs odd ms) ∧ FB base db sb xb w w' ∧ w.heap.size < w'.heap.size := by
  unfold doD
  by_cases h1 : K = 1
  · subst h1
    rw [if_pos rfl, if_pos rfl]
    exact do2_read h N A bs.length c odd AM ms.length cm hfew hfewX
  rw [if_neg h1, if_neg h1]
  by_cases h2 : K = 2
  · subst h2
    rw [if_pos rfl, if_pos rfl]
    exact do2_write h N A bs c odd AM ms cm hC hc hby hfew hfewX
  rw [if_neg h2, if_neg h2]
  by_cases h3 : K = 3
  · subst h3
    rw [if_pos rfl, if_pos rfl]
    exact do2_flush h N A bs c odd AM ms cm hfew hfewX
  rw [if_neg h3, if_neg h3]
  by_cases h4 : K = 4
  · subst h4
    rw [if_pos rfl, if_pos rfl]
    exact do2_stop h N A bs c odd AM ms cm hN
  rw [if_neg h4, if_neg h4]
  by_cases h5 : K = 5
  · subst h5
    rw [if_pos rfl, if_pos rfl]
    exact do2_crash h N A bs c odd AM ms cm hM hcm
  rw [if_neg h5, if_neg h5]
  exact do2_else h K N A bs c odd AM ms cm (beq_no h1) (beq_no h2) (beq_no h3) (beq_no h4) (beq_no h5)
end Disk
end Go.Proofs.Ytooemgcijbdilaa
