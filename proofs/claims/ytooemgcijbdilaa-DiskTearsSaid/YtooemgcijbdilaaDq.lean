/- The disk in memory: writes. -/
import Derived.Test.YtooemgcijbdilaaDo
import Derived.Below
import Derived.Lib.Hide
import Derived.OwnWalk
import Derived.WalkKit
import Derived.KernelRfl
import Derived.RowKit3
import Derived.Deep.LoopGhost
import Derived.Deep.QuietTactic
import Derived.BigQuiet
import Derived.WideLaws
import Derived.Great.BuildSlice
import Derived.Outline
import Derived.Deep.DeepCutAuto
import Derived.WalkSpells
import Derived.RegionTactic
import Derived.BigRegion
import Derived.WalkLawsBesides
namespace Go.Proofs.Ytooemgcijbdilaa
set_option linter.unusedVariables false
set_option linter.unusedSimpArgs false
open Go.RowKit Go.Proofs.YtooemgcijbdilaaW.PrintWords Go.Proofs.YtooemgcijbdilaaW.PrintLast Go.Proofs.YtooemgcijbdilaaW.PrintMore
namespace Disk
open Go.Disk PDiskDoes
theorem infoW : (Try.prog.info? 77).map (fun i => (i.zero, i.size, i.bytes)) = some (some (.agg #[.int .i64 0, .slice none 0 0]), 2, 32) := by kernel_rfl
def waitD (D : Dk) (n : Int) (b : List Int) : Dk := { D with waits := D.waits ++ [(n, b)] }
theorem wait_ok {D : Dk} (h : Ok D) (n : Int) (b : List Int) (hn : 0 ≤ n ∧ n < D.safe.length) (hl : b.length = 256) (hb : ∀ x ∈ b, 0 ≤ x ∧ x ≤ 255) : Ok (waitD D n b) :=
  ⟨h.few, h.len, h.byte, fun p hp => by
    rcases List.mem_append.1 hp with h1 | h1
    · exact h.at_ p h1
    · simp at h1
      subst h1
      exact ⟨hn.1, hn.2, hl, hb⟩, h.left⟩
/-- What a write answers, and what is there then. -/
def writeD (D : Dk) (n : Int) (b : List Int) : Dk × Int :=
  if ready D n ≠ 0 then (D, ready D n) else if b.length ≠ 256 then (D, 11) else if D.left = 0 then (deedD (waitD D n b), 9) else ({ deedD (waitD D n b) with writes := wrap64 (D.writes + 1) }, 0)
set_option maxHeartbeats 8000000 in
set_option maxRecDepth 100000 in
theorem write_yes {w : World} {base db sb : Nat} {D : Dk} (h : PD w base db sb D) (N : Int) (hr : ready D N = 0) (a : Addr) (c : Nat) (bs : List Int) (hl : bs.length = 256) (hby : ∀ x ∈ bs, 0 ≤ x ∧ x ≤ 255) (hC : ∀ x, Below w.heap.size w x → Kd.C (Kd.int .u8) x (some a) bs.length bs) (hfew : D.waits.length ≤ 1000000) :
    Calls Try.prog 10 #[.pointer (some ⟨db, 0, none⟩), .int .i64 N, .slice (some a) bs.length c] w fun e w' => e = .returned (.int .i64 (writeD D N bs).2) ∧ PD w' base db sb (writeD D N bs).1 ∧ FP base db sb w w' := by
  have hN : 0 ≤ N ∧ N < D.safe.length := by
    unfold ready at hr
    split at hr
    · omega
    · split at hr
      · omega
      · omega
  have HP := Aside0.mk h
  have HR := Aside0.mk hr
  have HC := Aside0.mk hC
  have HBY := Aside0.mk hby
  obtain ⟨vw, cs, sp, hx⟩ := h
  obtain ⟨AW, cW, rfl⟩ := Kd.R_slice hx.waits
  have HX := Aside0.mk hx
  have hdl : db < w.heap.size := blk_lt hx.cells
  clear hx hr hC hby
  rw [hl]
  go_enter Try.func10, Try.ntmps10
  go_wp2_with fail
  refine (ready_any N HP.out).mono ?_
  rintro e w1 ⟨rfl, rfl⟩
  rw [HR.out]
  go_wp2_with fail
  have hm1 : ∀ m : Go.Reg.In (Below w1.heap.size w1), m.w.cell? ⟨db, 1, none⟩ = some (.slice AW D.waits.length cW) := fun m => by rw [m.h.cell hdl]; exact cell_blk HX.out.cells
  refine Go.Reg.region (Below w1.heap.size w1) [.p, .s, .s, .s, .s, .s, .s, .w, .s, .w, .x, .p, .p, .x] (by kernel_rfl) (by kernel_rfl) (below_drew1 (Below.refl _ _)) (fun ne => ?_)
  refine Go.Reg.lex_qp 1 _ _ _ _ _ (by rfl) ?_; simp only [List.take_succ_cons, List.take_zero, List.drop_succ_cons, List.drop_zero]; (repeat (go_big_quiet_step (rfl))); refine wpQuiet_nil ?_
  refine Go.Reg.lex_q 6 _ _ _ _ (by rfl) ?_; simp only [List.take_succ_cons, List.take_zero, List.drop_succ_cons, List.drop_zero]; (repeat (go_big_quiet_step (rfl))); refine wpQuiet_nil ?_
  refine Go.Reg.step_w (fun K hK => ?_)
  go_wp2_with fail
  have hcl := clone8 (w := w1.drew) a c bs (HC.out _ (below_drew1 (Below.refl _ _))) (by omega)
  rw [hl] at hcl
  refine hcl.mono ?_
  rintro e w2 ⟨vb, rfl, hrb, _, hb2⟩
  obtain ⟨AB, cB, rfl⟩ := Kd.R_slice hrb
  have HRB := Aside0.mk hrb
  have HB2 := Aside0.mk ((below_drew1 (Below.refl w1.heap.size w1)).trans hb2)
  rw [hl]
  clear hcl hrb hb2
  go_wp2_with fail
  refine hK.out _ _ HB2.out ?_
  clear hK K
  refine Go.Reg.lex_q 1 _ _ _ _ (by rfl) ?_; simp only [List.take_succ_cons, List.take_zero, List.drop_succ_cons, List.drop_zero]; (repeat (go_big_quiet_step (rfl))); refine wpQuiet_nil ?_
  refine Go.Reg.step_w (fun K hK => ?_)
  go_wp2_with fail
  refine hK.out _ _ (HB2.out.alloc HB2.out.size _) ?_
  clear hK K
  refine Go.Reg.step_x (by rfl) (fun K hK => ?_)
  have hs2 : w1.heap.size ≤ w2.heap.size := HB2.out.size
  have hsl : sb < w1.heap.size := blk_lt HX.out.safe
  have hdb := HX.out.dbase
  have HOW := Aside0.mk (Kd.R_lt HX.out.waits)
  have HX2 := Aside0.mk (HX.out.below HB2.out)
  refine Kd.R_append kW (w0 := w2) (W := w2) base rfl (.tmp 22) (.tmp 27) 66 77 (.agg #[.int .i64 0, .slice none 0 0]) 32 rfl Try.underlying66 infoW rfl (by decide) (by omega) (.slice AW D.waits.length cW) D.waits (N, bs) [.int .i64 N, .slice AB 256 cB] (fun k => k ≠ sb) (fun k => w1.heap.size ≤ k) rfl rfl ?aP ?aK ?aF ?aO (Below.refl _ _) ?aB ?aL ?_
  case aP => exact ⟨[.int .i64 N], [.slice AB 256 cB], rfl, rfl, _, rfl, by
    have h1 := HRB.out
    rw [hl] at h1
    exact Kd.R_mono (Kd.R_lower (Kd.R_bound h1) (by show base ≤ w1.heap.size; omega)) (fun k hk => hk.2.1)⟩
  case aK => exact fun k hk => ⟨by omega, fun e => by have := HOW.out k e.symm; omega⟩
  case aF => exact fun k hk => by omega
  case aO => exact HX2.out.waits
  case aB => omega
  case aL => omega
  intro v3 w3 ho3 _ hg3 hat3
  obtain ⟨A3, c3, rfl⟩ := Kd.R_slice ho3
  have hlen1 : (D.waits ++ [(N, bs)]).length = D.waits.length + 1 := by simp
  rw [hlen1] at ho3
  rw [hlen1]
  clear hlen1
  have HO3 := Aside0.mk ho3
  have hned : some db ≠ (Value.slice AW D.waits.length cW).ownBlock := Kd.R_ne HX2.out.waits HX2.out.cells (by decide)
  have hnes : some sb ≠ (Value.slice AW D.waits.length cW).ownBlock := fun e => (HX2.out.waits.1 sb e.symm) rfl
  have k3 := (hg3.block db (by omega) hned).trans HX2.out.cells
  have ks3 := (hg3.block sb (by omega) hnes).trans HX2.out.safe
  have HK3 := Aside0.mk k3
  have HS3 := Aside0.mk ks3
  have d1 : w3.cell? ⟨db, 1, none⟩ = some (.slice AW D.waits.length cW) := cell_blk k3
  have g1 : w3.frozen? ⟨db, 1, none⟩ = false := frozen_blk k3
  have HF3 := Aside0.mk (show FP base db sb w1 w3 from (Fr.of_below HB2.out).trans ⟨hg3.os, hg3.tape, hg3.output, hg3.size, fun k hk hne ht => hg3.block k hk (fun e => by
    obtain ⟨cells, hcells⟩ := own_typed (Kd.R_own HX2.out.waits).choose_spec k e.symm
    exact ht _ _ _ hcells ⟨own_base (Kd.R_own HX2.out.waits).choose_spec k e.symm, rfl⟩)⟩)
  clear ho3 hg3 hat3 k3 ks3 hned hnes
  refine hK.out _ _ ?_
  clear hK K
  simp only [Act.put, List.setIfInBounds_toArray, List.set_cons_succ, List.set_cons_zero]
  refine Go.Reg.lex_qp 2 _ _ _ _ _ (by rfl) ?_; simp only [List.take_succ_cons, List.take_zero, List.drop_succ_cons, List.drop_zero]; (repeat (go_big_quiet_step (rfl))); refine wpQuiet_nil ?_
  refine Go.Reg.step_x (by rfl) (fun K hK => ?_)
  go_wp2_with fail
  refine hK.out _ _ ?_
  clear hK K
  refine Go.Reg.lex_nil ?_
  have hset := blk_set HK3.out 1 (.slice A3 (D.waits.length + 1) c3)
  obtain ⟨w4, hw4⟩ : ∃ w4, w4 = w3.setCell ⟨db, 1, none⟩ (.slice A3 (D.waits.length + 1) c3) := ⟨_, rfl⟩
  have hp4 : PD w4 base db sb (waitD D N bs) := by
    refine ⟨.slice A3 (D.waits.length + 1) c3, cs, sp, wait_ok HX.out.ok N bs hN hl HBY.out, HX.out.dbase, HX.out.sbase, ?_, ?_, ?_, HX.out.room⟩
    · rw [hw4, hset]; rfl
    · rw [hw4]; exact Kd.R_set HO3.out HK3.out (by decide) 1 _
    · rw [hw4, Below.heap_setCell _ _ _ _ (Ne.symm HX.out.ne)]; exact HS3.out
  have hf4 : FP base db sb w1 w4 := by rw [hw4]; exact HF3.out.trans (.set _ _ _ _ (.inl rfl))
  try rw [← hw4]
  have HP4 := Aside0.mk hp4
  have HF4 := Aside0.mk hf4
  clear hw4 hset hp4 hf4 d1 g1
  go_wp2_with fail
  refine (deed_any HP4.out).mono ?_
  rintro e w5 ⟨rfl, hp5, hf5⟩
  have HP5 := Aside0.mk hp5
  have HF5 := Aside0.mk (HF4.out.trans hf5)
  clear hp5 hf5
  have hwd : writeD D N bs = if D.left = 0 then (deedD (waitD D N bs), 9) else ({ deedD (waitD D N bs) with writes := wrap64 (D.writes + 1) }, 0) := by
    unfold writeD
    rw [HR.out, if_neg (by simp), if_neg (by rw [hl]; simp)]
  have HWD := Aside0.mk hwd
  clear hwd
  by_cases hz : D.left = 0
  · rw [show (waitD D N bs).left = D.left from rfl, if_pos hz]
    go_wp2_with fail
    go_ret
    rw [HWD.out, if_pos hz]
    exact ⟨rfl, HP5.out, HF5.out⟩
  · rw [show (waitD D N bs).left = D.left from rfl, if_neg hz]
    obtain ⟨vw5, cs5, sp5, hx5⟩ := HP5.out
    have hwr : (deedD (waitD D N bs)).writes = D.writes := by unfold deedD; rw [show (waitD D N bs).left = D.left from rfl, if_neg hz]; rfl
    have c5 : w5.cell? ⟨db, 5, none⟩ = some (.int .i64 D.writes) := by rw [← hwr]; exact cell_blk hx5.cells
    have f5 : w5.frozen? ⟨db, 5, none⟩ = false := frozen_blk hx5.cells
    have HX5 := Aside0.mk hx5
    have HWR := Aside0.mk hwr
    clear hx5 hwr
    go_wp2_with fail
    refine (add_at _ db 5 D.writes 1 c5 f5).mono ?_
    rintro e w6 ⟨rfl, hw6⟩
    have hp6 : PD w6 base db sb { deedD (waitD D N bs) with writes := wrap64 (D.writes + 1) } := ⟨vw5, cs5, sp5, by rw [hw6]; exact HX5.out.put 5 _ (cnt_ok HX5.out.ok rfl rfl rfl) rfl rfl rfl⟩
    have hf6 : FP base db sb w1 w6 := by rw [hw6]; exact HF5.out.trans (.set _ _ _ _ (.inl rfl))
    clear hw6
    go_wp2_with fail
    go_ret
    rw [HWD.out, if_neg hz]
    exact ⟨rfl, hp6, hf6⟩
end Disk
end Go.Proofs.Ytooemgcijbdilaa
