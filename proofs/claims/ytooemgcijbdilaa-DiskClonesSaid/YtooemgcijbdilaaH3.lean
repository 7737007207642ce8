/- The disk in memory: Write, Stat, Block, Flush, Image, Safe, Load. -/
import Derived.Test.YtooemgcijbdilaaH2
import Derived.Below
import Derived.Lib.Hide
import Derived.OwnWalk
import Derived.WalkKit
import Derived.KernelRfl
import Derived.RowKit3
import Derived.Deep.LoopGhost
import Derived.Deep.QuietTactic
import Derived.BigQuiet
import Derived.WideLaws
import Derived.Great.BuildSlice
import Derived.Outline
import Derived.Deep.DeepCutAuto
import Derived.WalkSpells
import Derived.RegionTactic
import Derived.BigRegion
import Derived.WalkLawsBesides
namespace Go.Proofs.Ytooemgcijbdilaa
set_option linter.unusedVariables false
set_option linter.unusedSimpArgs false
open Go.RowKit Go.Proofs.YtooemgcijbdilaaW.PrintWords Go.Proofs.YtooemgcijbdilaaW.PrintLast Go.Proofs.YtooemgcijbdilaaW.PrintMore
namespace Disk
open Go.Disk PDiskDoes
theorem infoW : (Try.prog.info? 77).map (fun i => (i.zero, i.size, i.bytes)) = some (some (.agg #[.int .i64 0, .slice none 0 0]), 2, 32) := by kernel_rfl
def waitD (D : Dk) (n : Int) (b : List Int) : Dk := { D with waits := D.waits ++ [(n, b)] }
theorem wait_ok {D : Dk} (h : Ok D) (n : Int) (b : List Int) (hn : 0 ≤ n ∧ n < D.safe.length) (hl : b.length = 256) (hb : ∀ x ∈ b, 0 ≤ x ∧ x ≤ 255) : Ok (waitD D n b) :=
  ⟨h.few, h.len, h.byte, fun p hp => by
    rcases List.mem_append.1 hp with h1 | h1
    · exact h.at_ p h1
    · simp at h1
      subst h1
      exact ⟨hn.1, hn.2, hl, hb⟩, h.left⟩
/-- What a write answers, and what is there then. -/
def writeD (D : Dk) (n : Int) (b : List Int) : Dk × Int :=
  if ready D n ≠ 0 then (D, ready D n) else if b.length ≠ 256 then (D, 11) else if D.left = 0 then (deedD (waitD D n b), 9) else ({ deedD (waitD D n b) with writes := wrap64 (D.writes + 1) }, 0)
set_option maxHeartbeats 8000000 in
set_option maxRecDepth 100000 in
theorem write_yes {w : World} {base db sb : Nat} {D : Dk} (h : PD w base db sb D) (N : Int) (hr : ready D N = 0) (a : Addr) (c : Nat) (bs : List Int) (hl : bs.length = 256) (hby : ∀ x ∈ bs, 0 ≤ x ∧ x ≤ 255) (hC : ∀ x, Below w.heap.size w x → Kd.C (Kd.int .u8) x (some a) bs.length bs) (hfew : D.waits.length ≤ 1000000) :
    Calls Try.prog 10 #[.pointer (some ⟨db, 0, none⟩), .int .i64 N, .slice (some a) bs.length c] w fun e w' => e = .returned (.int .i64 (writeD D N bs).2) ∧ PD w' base db sb (writeD D N bs).1 ∧ FP base db sb w w' := by
  have hN : 0 ≤ N ∧ N < D.safe.length := by
    unfold ready at hr
    split at hr
    · omega
    · split at hr
      · omega
      · omega
  have HP := Aside0.mk h
  have HR := Aside0.mk hr
  have HC := Aside0.mk hC
  have HBY := Aside0.mk hby
  obtain ⟨vw, cs, sp, hx⟩ := h
  obtain ⟨AW, cW, rfl⟩ := Kd.R_slice hx.waits
  have HX := Aside0.mk hx
  have hdl : db < w.heap.size := blk_lt hx.cells
  clear hx hr hC hby
  rw [hl]
  go_enter Try.func10, Try.ntmps10
  go_wp2_with fail
  refine (ready_any N HP.out).mono ?_
  rintro e w1 ⟨rfl, rfl⟩
  rw [HR.out]
  go_wp2_with fail
  have hm1 : ∀ m : Go.Reg.In (Below w1.heap.size w1), m.w.cell? ⟨db, 1, none⟩ = some (.slice AW D.waits.length cW) := fun m => by rw [m.h.cell hdl]; exact cell_blk HX.out.cells
  refine Go.Reg.region (Below w1.heap.size w1) [.p, .s, .s, .s, .s, .s, .s, .w, .s, .w, .x, .p, .p, .x] (by kernel_rfl) (by kernel_rfl) (below_drew1 (Below.refl _ _)) (fun ne => ?_)
  refine Go.Reg.lex_qp 1 _ _ _ _ _ (by rfl) ?_; simp only [List.take_succ_cons, List.take_zero, List.drop_succ_cons, List.drop_zero]; (repeat (go_big_quiet_step (rfl))); refine wpQuiet_nil ?_
  refine Go.Reg.lex_q 6 _ _ _ _ (by rfl) ?_; simp only [List.take_succ_cons, List.take_zero, List.drop_succ_cons, List.drop_zero]; (repeat (go_big_quiet_step (rfl))); refine wpQuiet_nil ?_
  refine Go.Reg.step_w (fun K hK => ?_)
  go_wp2_with fail
  have hcl := clone8 (w := w1.drew) a c bs (HC.out _ (below_drew1 (Below.refl _ _))) (by omega)
  rw [hl] at hcl
  refine hcl.mono ?_
  rintro e w2 ⟨vb, rfl, hrb, _, hb2⟩
  obtain ⟨AB, cB, rfl⟩ := Kd.R_slice hrb
  have HRB := Aside0.mk hrb
  have HB2 := Aside0.mk ((below_drew1 (Below.refl w1.heap.size w1)).trans hb2)
  rw [hl]
  clear hcl hrb hb2
  go_wp2_with fail
  refine hK.out _ _ HB2.out ?_
  clear hK K
  refine Go.Reg.lex_q 1 _ _ _ _ (by rfl) ?_; simp only [List.take_succ_cons, List.take_zero, List.drop_succ_cons, List.drop_zero]; (repeat (go_big_quiet_step (rfl))); refine wpQuiet_nil ?_
  refine Go.Reg.step_w (fun K hK => ?_)
  go_wp2_with fail
  refine hK.out _ _ (HB2.out.alloc HB2.out.size _) ?_
  clear hK K
  refine Go.Reg.step_x (by rfl) (fun K hK => ?_)
  have hs2 : w1.heap.size ≤ w2.heap.size := HB2.out.size
  have hsl : sb < w1.heap.size := blk_lt HX.out.safe
  have hdb := HX.out.dbase
  have HOW := Aside0.mk (Kd.R_lt HX.out.waits)
  have HX2 := Aside0.mk (HX.out.below HB2.out)
  refine Kd.R_append kW (w0 := w2) (W := w2) 0 rfl (.tmp 22) (.tmp 27) 66 77 (.agg #[.int .i64 0, .slice none 0 0]) 32 rfl Try.underlying66 infoW rfl (by decide) (by omega) (.slice AW D.waits.length cW) D.waits (N, bs) [.int .i64 N, .slice AB 256 cB] (fun k => k ≠ sb) (fun k => w1.heap.size ≤ k) rfl rfl ?aP ?aK ?aF ?aO (Below.refl _ _) ?aB ?aL ?_
  case aP => exact ⟨[.int .i64 N], [.slice AB 256 cB], rfl, rfl, _, rfl, by
    have h1 := HRB.out
    rw [hl] at h1
    exact Kd.R_mono (Kd.R_lower (Kd.R_bound h1) (Nat.zero_le _)) (fun k hk => hk.2.1)⟩
  case aK => exact fun k hk => ⟨by omega, fun e => by have := HOW.out k e.symm; omega⟩
  case aF => exact fun k hk => by omega
  case aO => exact HX2.out.waits
  case aB => omega
  case aL => omega
  intro v3 w3 ho3 _ hg3 hat3
  have HWO := Aside0.mk (show ∀ k, v3.ownBlock = some k → base ≤ k from fun k hk => by
    rcases hat3 with h | ⟨b, h1, h2⟩
    · exact HX.out.wown k (h ▸ hk)
    · rw [h1] at hk; cases hk; have := HX.out.dbase; omega)
  obtain ⟨A3, c3, rfl⟩ := Kd.R_slice ho3
  have hlen1 : (D.waits ++ [(N, bs)]).length = D.waits.length + 1 := by simp
  rw [hlen1] at ho3 HWO
  rw [hlen1]
  clear hlen1
  have HO3 := Aside0.mk ho3
  have hned : some db ≠ (Value.slice AW D.waits.length cW).ownBlock := Kd.R_ne HX2.out.waits HX2.out.cells (by decide)
  have hnes : some sb ≠ (Value.slice AW D.waits.length cW).ownBlock := fun e => (HX2.out.waits.1 sb e.symm) rfl
  have k3 := (hg3.block db (by omega) hned).trans HX2.out.cells
  have ks3 := (hg3.block sb (by omega) hnes).trans HX2.out.safe
  have HK3 := Aside0.mk k3
  have HS3 := Aside0.mk ks3
  have d1 : w3.cell? ⟨db, 1, none⟩ = some (.slice AW D.waits.length cW) := cell_blk k3
  have g1 : w3.frozen? ⟨db, 1, none⟩ = false := frozen_blk k3
  have HF3 := Aside0.mk (show FP base db sb w1 w3 from (Fr.of_below HB2.out).trans ⟨hg3.os, hg3.tape, hg3.output, hg3.size, fun k hk hne ht => hg3.block k hk (fun e => by
    obtain ⟨cells, hcells⟩ := own_typed (Kd.R_own HX2.out.waits).choose_spec k e.symm
    exact ht _ _ _ hcells ⟨HX2.out.wown k e.symm, rfl⟩)⟩)
  clear ho3 hg3 hat3 k3 ks3 hned hnes
  refine hK.out _ _ ?_
  clear hK K
  simp only [Act.put, List.setIfInBounds_toArray, List.set_cons_succ, List.set_cons_zero]
  refine Go.Reg.lex_qp 2 _ _ _ _ _ (by rfl) ?_; simp only [List.take_succ_cons, List.take_zero, List.drop_succ_cons, List.drop_zero]; (repeat (go_big_quiet_step (rfl))); refine wpQuiet_nil ?_
  refine Go.Reg.step_x (by rfl) (fun K hK => ?_)
  go_wp2_with fail
  refine hK.out _ _ ?_
  clear hK K
  refine Go.Reg.lex_nil ?_
  have hset := blk_set HK3.out 1 (.slice A3 (D.waits.length + 1) c3)
  obtain ⟨w4, hw4⟩ : ∃ w4, w4 = w3.setCell ⟨db, 1, none⟩ (.slice A3 (D.waits.length + 1) c3) := ⟨_, rfl⟩
  have hp4 : PD w4 base db sb (waitD D N bs) := by
    refine ⟨.slice A3 (D.waits.length + 1) c3, cs, sp, wait_ok HX.out.ok N bs hN hl HBY.out, HX.out.dbase, HX.out.sbase, HWO.out, ?_, ?_, ?_, HX.out.room⟩
    · rw [hw4, hset]; rfl
    · rw [hw4]; exact Kd.R_set HO3.out HK3.out (by decide) 1 _
    · rw [hw4, Below.heap_setCell _ _ _ _ (Ne.symm HX.out.ne)]; exact HS3.out
  have hf4 : FP base db sb w1 w4 := by rw [hw4]; exact HF3.out.trans (.set _ _ _ _ (.inl rfl))
  try rw [← hw4]
  have HP4 := Aside0.mk hp4
  have HF4 := Aside0.mk hf4
  clear hw4 hset hp4 hf4 d1 g1
  go_wp2_with fail
  refine (deed_any HP4.out).mono ?_
  rintro e w5 ⟨rfl, hp5, hf5⟩
  have HP5 := Aside0.mk hp5
  have HF5 := Aside0.mk (HF4.out.trans hf5)
  clear hp5 hf5
  have hwd : writeD D N bs = if D.left = 0 then (deedD (waitD D N bs), 9) else ({ deedD (waitD D N bs) with writes := wrap64 (D.writes + 1) }, 0) := by
    unfold writeD
    rw [HR.out, if_neg (by simp), if_neg (by rw [hl]; simp)]
  have HWD := Aside0.mk hwd
  clear hwd
  by_cases hz : D.left = 0
  · rw [show (waitD D N bs).left = D.left from rfl, if_pos hz]
    go_wp2_with fail
    go_ret
    rw [HWD.out, if_pos hz]
    exact ⟨rfl, HP5.out, HF5.out⟩
  · rw [show (waitD D N bs).left = D.left from rfl, if_neg hz]
    obtain ⟨vw5, cs5, sp5, hx5⟩ := HP5.out
    have hwr : (deedD (waitD D N bs)).writes = D.writes := by unfold deedD; rw [show (waitD D N bs).left = D.left from rfl, if_neg hz]; rfl
    have c5 : w5.cell? ⟨db, 5, none⟩ = some (.int .i64 D.writes) := by rw [← hwr]; exact cell_blk hx5.cells
    have f5 : w5.frozen? ⟨db, 5, none⟩ = false := frozen_blk hx5.cells
    have HX5 := Aside0.mk hx5
    have HWR := Aside0.mk hwr
    clear hx5 hwr
    go_wp2_with fail
    refine (add_at _ db 5 D.writes 1 c5 f5).mono ?_
    rintro e w6 ⟨rfl, hw6⟩
    have hp6 : PD w6 base db sb { deedD (waitD D N bs) with writes := wrap64 (D.writes + 1) } := ⟨vw5, cs5, sp5, by rw [hw6]; exact HX5.out.put 5 _ (cnt_ok HX5.out.ok rfl rfl rfl) rfl rfl rfl⟩
    have hf6 : FP base db sb w1 w6 := by rw [hw6]; exact HF5.out.trans (.set _ _ _ _ (.inl rfl))
    clear hw6
    go_wp2_with fail
    go_ret
    rw [HWD.out, if_neg hz]
    exact ⟨rfl, hp6, hf6⟩
end Disk
end Go.Proofs.Ytooemgcijbdilaa
namespace Go.Proofs.Ytooemgcijbdilaa
set_option linter.unusedVariables false
set_option linter.unusedSimpArgs false
open Go.RowKit Go.Proofs.YtooemgcijbdilaaW.PrintWords Go.Proofs.YtooemgcijbdilaaW.PrintLast Go.Proofs.YtooemgcijbdilaaW.PrintMore
namespace Disk
open Go.Disk PDiskDoes
set_option maxHeartbeats 8000000 in
set_option maxRecDepth 100000 in
theorem write_no {w : World} {base db sb : Nat} {D : Dk} (h : PD w base db sb D) (N : Int) (hr : ready D N ≠ 0) (A : Option Addr) (l c : Nat) :
    Calls Try.prog 10 #[.pointer (some ⟨db, 0, none⟩), .int .i64 N, .slice A l c] w fun e w' => e = .returned (.int .i64 (ready D N)) ∧ w' = w := by
  obtain ⟨r, hrr⟩ : ∃ r, r = ready D N := ⟨_, rfl⟩
  rw [← hrr] at hr ⊢
  have HR := Aside0.mk hrr
  clear hrr
  have hb : (r != 0) = true := by simpa using hr
  go_enter Try.func10, Try.ntmps10
  go_wp2_with fail
  refine (ready_any N h).mono ?_
  rintro e w1 ⟨rfl, rfl⟩
  rw [← HR.out]
  go_wp2_with fail
  go_ret
  exact ⟨rfl, rfl⟩
set_option maxHeartbeats 8000000 in
set_option maxRecDepth 100000 in
theorem write_size {w : World} {base db sb : Nat} {D : Dk} (h : PD w base db sb D) (N : Int) (hr : ready D N = 0) (A : Option Addr) (l c : Nat) (hl : l ≠ 256) :
    Calls Try.prog 10 #[.pointer (some ⟨db, 0, none⟩), .int .i64 N, .slice A l c] w fun e w' => e = .returned (.int .i64 11) ∧ w' = w := by
  have HR := Aside0.mk hr
  have hb : ((l : Int) != 256) = true := by simp; omega
  clear hr
  go_enter Try.func10, Try.ntmps10
  go_wp2_with fail
  refine (ready_any N h).mono ?_
  rintro e w1 ⟨rfl, rfl⟩
  rw [HR.out]
  go_wp2_with fail
  go_ret
  exact ⟨rfl, rfl⟩
set_option maxHeartbeats 8000000 in
set_option maxRecDepth 100000 in
theorem load_odd {w : World} (A : Option Addr) (l c : Nat) (hl : (l : Int) % 256 ≠ 0) :
    Calls Try.prog 22 #[.slice A l c] w fun e w' => e = .returned (.tuple #[.pointer none, .int .i64 11]) ∧ w' = w := by
  have hb : ((l : Int) % 256 != 0) = true := by simpa using hl
  go_enter Try.func22, Try.ntmps22
  go_wp2_with fail
  go_ret2
  exact ⟨rfl, rfl⟩
set_option maxHeartbeats 8000000 in
set_option maxRecDepth 100000 in
theorem flush_no {w : World} {base db sb : Nat} {D : Dk} (h : PD w base db sb D) (hr : ready D 0 ≠ 0) :
    Calls Try.prog 17 #[.pointer (some ⟨db, 0, none⟩)] w fun e w' => e = .returned (.int .i64 (ready D 0)) ∧ w' = w := by
  obtain ⟨r, hrr⟩ : ∃ r, r = ready D 0 := ⟨_, rfl⟩
  rw [← hrr] at hr ⊢
  have HR := Aside0.mk hrr
  clear hrr
  have hb : (r != 0) = true := by simpa using hr
  go_enter Try.func17, Try.ntmps17
  go_wp2_with fail
  refine (ready_any 0 h).mono ?_
  rintro e w1 ⟨rfl, rfl⟩
  rw [← HR.out]
  go_wp2_with fail
  go_ret
  exact ⟨rfl, rfl⟩
set_option maxHeartbeats 8000000 in
set_option maxRecDepth 100000 in
theorem flush_stop {w : World} {base db sb : Nat} {D : Dk} (h : PD w base db sb D) (hr : ready D 0 = 0) (hl : D.left = 0) :
    Calls Try.prog 17 #[.pointer (some ⟨db, 0, none⟩)] w fun e w' => e = .returned (.int .i64 9) ∧ PD w' base db sb (deedD D) ∧ FP base db sb w w' := by
  have HR := Aside0.mk hr
  have HL := Aside0.mk hl
  have HP := Aside0.mk h
  clear hr hl h
  go_enter Try.func17, Try.ntmps17
  go_wp2_with fail
  refine (ready_any 0 HP.out).mono ?_
  rintro e w1 ⟨rfl, rfl⟩
  rw [HR.out]
  go_wp2_with fail
  refine (deed_any HP.out).mono ?_
  rintro e w2 ⟨rfl, hp2, hf2⟩
  rw [if_pos HL.out]
  go_wp2_with fail
  go_ret
  exact ⟨rfl, hp2, hf2⟩
theorem results_c {P : Program} {fn : Func} {p : Tmp} {ty : TypeId} (h : fn.results = #[.cell p ty]) (tmps : Array Value) (w : World) (g : Nat) (t : TypeId) (cs : Array Value) (fr : Nat × Nat) (d : TypeDesc)
    (hp : tmps.getD p undef = .pointer (some ⟨g, 0, none⟩)) (hg : w.heap[g]? = some (.cells cs t fr))
    (hu : P.underlying ty = some d) (hd : (match d with | .struct _ | .array _ _ => true | _ => false) = true) (hi : (P.info? ty).map (·.size) = some cs.size) :
    (results fn tmps).run P w = .ok (.agg cs) w := by
  have hp' : tmps[p]?.getD undef = .pointer (some ⟨g, 0, none⟩) := by simpa using hp
  simp [results, h, hp', asAddr, run_loadVar_row w g t ty cs fr d hg hu hd hi]
set_option maxHeartbeats 8000000 in
set_option maxRecDepth 100000 in
theorem stat_any {w : World} {base db sb : Nat} {D : Dk} (h : PD w base db sb D) :
    Calls Try.prog 21 #[.pointer (some ⟨db, 0, none⟩)] w fun e w' => e = .returned (.agg #[.int .i64 D.reads, .int .i64 D.writes, .int .i64 D.flushes]) ∧ Below w.heap.size w w' := by
  obtain ⟨vw, cs, sp, h⟩ := h
  have HX := Aside0.mk h
  have hdl : db < w.heap.size := blk_lt h.cells
  clear h
  go_enter Try.func21, Try.ntmps21
  go_wp2_with fail
  obtain ⟨W, hW⟩ : ∃ W, W = w.alloc (.cells #[.int .i64 0, .int .i64 0, .int .i64 0] 51) := ⟨_, rfl⟩
  have hal : Below w.heap.size w W := by rw [hW]; exact (Below.refl _ _).alloc (Nat.le_refl _) _
  have hbx : W.heap[w.heap.size]? = some (.cells #[.int .i64 0, .int .i64 0, .int .i64 0] 51 (0, 0)) := by rw [hW]; exact heap_alloc_new w _
  rw [← hW]
  have HAL := Aside0.mk hal
  have HBX := Aside0.mk hbx
  have HXW := Aside0.mk (HX.out.below hal)
  clear hW hal hbx
  obtain ⟨CT, hCT⟩ : ∃ CT : Bool → World → Prop, ∀ d x, CT d x ↔ (Fr (fun k => k = w.heap.size) (fun _ _ => False) W x ∧ x.heap[w.heap.size]? = some (.cells (if d then #[.int .i64 D.reads, .int .i64 D.writes, .int .i64 D.flushes] else #[.int .i64 0, .int .i64 0, .int .i64 0]) 51 (0, 0))) := ⟨fun d x => _, fun _ _ => Iff.rfl⟩
  have HCT := Aside0.mk hCT
  clear hCT
  have hcell : ∀ d x, CT d x → x.cell? ⟨db, 4, none⟩ = some (.int .i64 D.reads) ∧ x.cell? ⟨db, 5, none⟩ = some (.int .i64 D.writes) ∧ x.cell? ⟨db, 6, none⟩ = some (.int .i64 D.flushes) := fun d x hx => by
    have h1 := ((HCT.out d x).1 hx).1.block db (Nat.lt_of_lt_of_le hdl HAL.out.size) (by omega) (fun _ _ _ _ h => h)
    have hb := h1.trans HXW.out.cells
    exact ⟨cell_blk hb, cell_blk hb, cell_blk hb⟩
  have HCE := Aside0.mk hcell
  clear hcell
  refine Go.Reg.region_t CT [false, false, false, false, false, false, false, false, false, false, false, false, false, false, false, false, true] (by kernel_rfl) (by kernel_rfl) ((HCT.out _ _).2 ⟨.of_below (below_drew1 (Below.refl _ _)), HBX.out⟩) (fun ne => ?_)
  refine Go.Reg.lexT_q 4 _ _ _ _ (by rfl) ?_; simp only [List.take_succ_cons, List.take_zero, List.drop_succ_cons, List.drop_zero]; (repeat (go_big_quiet_step (rfl))); refine wpQuiet_nil ?_
  refine Go.Reg.step_u (.int .i64 D.reads) (by rfl) (fun d x hx K hK => ?_) ?_
  · go_wp2_with fail
    refine (load_at x db 4 D.reads (HCE.out d x hx).1).mono ?_
    rintro e w5 ⟨rfl, rfl⟩
    go_wp2_with fail
    refine hK.out _ _ (by simp only [Act.put, List.setIfInBounds_toArray, List.set_cons_succ, List.set_cons_zero]) ?_
    simp only [List.headD_cons, Bool.or_false]
    exact hx
  simp only [Act.put, List.setIfInBounds_toArray, List.set_cons_succ, List.set_cons_zero, List.tail_cons, List.headD_cons, Bool.or_false]
  refine Go.Reg.lexT_q 4 _ _ _ _ (by rfl) ?_; simp only [List.take_succ_cons, List.take_zero, List.drop_succ_cons, List.drop_zero]; (repeat (go_big_quiet_step (rfl))); refine wpQuiet_nil ?_
  refine Go.Reg.step_u (.int .i64 D.writes) (by rfl) (fun d x hx K hK => ?_) ?_
  · go_wp2_with fail
    refine (load_at x db 5 D.writes (HCE.out d x hx).2.1).mono ?_
    rintro e w5 ⟨rfl, rfl⟩
    go_wp2_with fail
    refine hK.out _ _ (by simp only [Act.put, List.setIfInBounds_toArray, List.set_cons_succ, List.set_cons_zero]) ?_
    simp only [List.headD_cons, Bool.or_false]
    exact hx
  simp only [Act.put, List.setIfInBounds_toArray, List.set_cons_succ, List.set_cons_zero, List.tail_cons, List.headD_cons, Bool.or_false]
  refine Go.Reg.lexT_q 4 _ _ _ _ (by rfl) ?_; simp only [List.take_succ_cons, List.take_zero, List.drop_succ_cons, List.drop_zero]; (repeat (go_big_quiet_step (rfl))); refine wpQuiet_nil ?_
  refine Go.Reg.step_u (.int .i64 D.flushes) (by rfl) (fun d x hx K hK => ?_) ?_
  · go_wp2_with fail
    refine (load_at x db 6 D.flushes (HCE.out d x hx).2.2).mono ?_
    rintro e w5 ⟨rfl, rfl⟩
    go_wp2_with fail
    refine hK.out _ _ (by simp only [Act.put, List.setIfInBounds_toArray, List.set_cons_succ, List.set_cons_zero]) ?_
    simp only [List.headD_cons, Bool.or_false]
    exact hx
  simp only [Act.put, List.setIfInBounds_toArray, List.set_cons_succ, List.set_cons_zero, List.tail_cons, List.headD_cons, Bool.or_false]
  refine Go.Reg.lexT_q 1 _ _ _ _ (by rfl) ?_; simp only [List.take_succ_cons, List.take_zero, List.drop_succ_cons, List.drop_zero]; (repeat (go_big_quiet_step (rfl))); refine wpQuiet_nil ?_
  refine Go.Reg.step_u undef (by rfl) (fun d x hx K hK => ?_) ?_
  · obtain ⟨hf, hb⟩ := (HCT.out d x).1 hx
    have hn := blk_set (blk_set (blk_set hb 0 (.int .i64 D.reads)) 1 (.int .i64 D.writes)) 2 (.int .i64 D.flushes)
    have e0 : x.cell? ⟨w.heap.size, 0, none⟩ = some (if d then .int .i64 D.reads else .int .i64 0) := by cases d <;> exact cell_blk hb
    have e1 : x.cell? ⟨w.heap.size, 1, none⟩ = some (if d then .int .i64 D.writes else .int .i64 0) := by cases d <;> exact cell_blk hb
    have e2 : x.cell? ⟨w.heap.size, 2, none⟩ = some (if d then .int .i64 D.flushes else .int .i64 0) := by cases d <;> exact cell_blk hb
    have f0 : x.frozen? ⟨w.heap.size, 0, none⟩ = false := frozen_blk hb
    have f1 : x.frozen? ⟨w.heap.size, 1, none⟩ = false := frozen_blk hb
    have f2 : x.frozen? ⟨w.heap.size, 2, none⟩ = false := frozen_blk hb
    have HF := Aside0.mk hf
    have HN := Aside0.mk hn
    clear hf hb hn
    go_wp2_with fail
    refine hK.out _ _ (by simp only [Act.put]) ?_
    simp only [List.headD_cons, Bool.or_true]
    refine (HCT.out _ _).2 ⟨HF.out.trans (((Fr.set (bs := fun k => k = w.heap.size) x w.heap.size 0 _ rfl).trans (Fr.set (bs := fun k => k = w.heap.size) _ w.heap.size 1 _ rfl)).trans (Fr.set (bs := fun k => k = w.heap.size) _ w.heap.size 2 _ rfl)), ?_⟩
    rw [HN.out]
    cases d <;> rfl
  simp only [Act.put, List.setIfInBounds_toArray, List.set_cons_succ, List.set_cons_zero, List.tail_cons, List.headD_cons, Bool.or_true]
  refine Go.Reg.lexT_nil (fun w3 hw3 => ?_)
  go_wp2_with fail
  obtain ⟨hf, hb⟩ := (HCT.out true w3).1 hw3
  refine bodyPost_ret (results_c rfl _ _ w.heap.size 51 #[.int .i64 D.reads, .int .i64 D.writes, .int .i64 D.flushes] (0, 0) _ rfl hb Try.underlying51 rfl (by kernel_rfl)) rfl ?_
  have hw : Below w.heap.size w w3 := ⟨hf.os.trans HAL.out.os, hf.tape.trans HAL.out.tape, hf.output.trans HAL.out.output, Nat.le_trans HAL.out.size hf.size, fun k hk => (hf.block k (Nat.lt_of_lt_of_le hk HAL.out.size) (by omega) (fun _ _ _ _ h => h)).trans (HAL.out.block k hk)⟩
  exact ⟨rfl, hw⟩
end Disk
end Go.Proofs.Ytooemgcijbdilaa
namespace Go.Proofs.Ytooemgcijbdilaa
set_option linter.unusedVariables false
set_option linter.unusedSimpArgs false
open Go.RowKit Go.Proofs.YtooemgcijbdilaaW.PrintWords Go.Proofs.YtooemgcijbdilaaW.PrintLast Go.Proofs.YtooemgcijbdilaaW.PrintMore
namespace Disk
open Go.Disk PDiskDoes
def fillTo (f : Nat → Int) (n i : Nat) : List Int := (List.range n).map fun j => if j < i then f j else 0
theorem fill_len (f : Nat → Int) (n i : Nat) : (fillTo f n i).length = n := by simp [fillTo]
theorem fill_zero (f : Nat → Int) (n : Nat) : fillTo f n 0 = List.replicate n 0 := by
  apply List.ext_getElem
  · rw [fill_len, List.length_replicate]
  · intro i h1 h2
    simp [fillTo]
theorem fill_set (f : Nat → Int) (n i : Nat) : (fillTo f n i).set i (f i) = fillTo f n (i + 1) := by
  apply List.ext_getElem
  · rw [List.length_set, fill_len, fill_len]
  · intro j h1 h2
    rw [List.getElem_set]
    simp only [fillTo, List.getElem_map, List.getElem_range]
    by_cases hj : i = j
    · subst hj; simp
    · rw [if_neg hj]
      by_cases hl : j < i
      · rw [if_pos hl, if_pos (by omega)]
      · rw [if_neg hl, if_neg (by omega)]
theorem fill_mem (f : Nat → Int) (n i : Nat) (P : Int → Prop) (h0 : P 0) (hf : ∀ j, P (f j)) : ∀ x ∈ fillTo f n i, P x := by
  intro x hx
  simp only [fillTo, List.mem_map] at hx
  obtain ⟨j, _, rfl⟩ := hx
  split
  · exact hf j
  · exact h0
def rep8 (bs : List Int) (j : Nat) : Int := bs.getD (j % bs.length) 0
/-- Bytes again and again; zeros, if there are none. -/
def blockOf (bs : List Int) : List Int := if bs.length = 0 then List.replicate 256 0 else fillTo (rep8 bs) 256 256
theorem block_len (bs : List Int) : (blockOf bs).length = 256 := by
  unfold blockOf
  split
  · exact List.length_replicate
  · exact fill_len _ _ _
theorem block_mem (bs : List Int) (h : ∀ x ∈ bs, 0 ≤ x ∧ x ≤ 255) : ∀ x ∈ blockOf bs, 0 ≤ x ∧ x ≤ 255 := by
  unfold blockOf
  split
  · intro x hx
    rw [(List.mem_replicate.1 hx).2]
    omega
  · refine fill_mem _ _ _ _ (by omega) (fun j => ?_)
    unfold rep8
    rw [List.getD_eq_getElem?_getD]
    cases hg : bs[j % bs.length]? with
    | none => simp
    | some x => exact h x (List.mem_of_getElem? hg)
theorem wrap_id (z : Int) (h0 : -9223372036854775808 ≤ z) (h1 : z ≤ 9223372036854775807) : wrap64 z = z := by
  first | (unfold wrap64; omega) | (simp [wrap64]; omega)
theorem block_l (bs : List Int) (hb : bs.length ≠ 0) : ∀ (k i : Nat), 256 < i + k → i ≤ 256 → chantrylaw06_Block.l0 k bs (fillTo (rep8 bs) 256 i) i = some (fillTo (rep8 bs) 256 256)
  | 0, i, h, _ => by omega
  | k + 1, i, h, hi => by
    simp only [chantrylaw06_Block.l0]
    by_cases hlt : i < 256
    · have hm : Int.tmod (i : Int) (bs.length : Int) = ((i % bs.length : Nat) : Int) := by rw [Int.tmod_eq_emod_of_nonneg (by omega)]; rfl
      have hmlt : i % bs.length < bs.length := Nat.mod_lt _ (by omega)
      rw [if_pos (by omega), if_pos (by omega), if_neg (by omega), hm, if_pos (by omega), if_pos (by omega), if_pos (by omega), fill_len, if_pos (by omega), Int.toNat_natCast]
      have hr : rd bs ((i % bs.length : Nat) : Int) = rep8 bs i := by unfold rd rep8; rw [Int.toNat_natCast]
      rw [hr, fill_set, wrap_id _ (by omega) (by omega)]
      exact block_l bs hb k (i + 1) (by omega) (by omega)
    · have : i = 256 := by omega
      subst this
      rw [if_neg (by omega)]
theorem block_nil (bs : List Int) (hb : bs.length = 0) (k : Nat) (acc : List Int) : chantrylaw06_Block.l0 (k + 1) bs acc 0 = some acc := by
  simp only [chantrylaw06_Block.l0]
  rw [if_pos (by omega), if_neg (by omega)]
theorem block_plain (bs : List Int) : chantrylaw06_Block.f 300 bs = some (blockOf bs) := by
  unfold chantrylaw06_Block.f blockOf
  rw [if_pos (by omega)]
  by_cases hb : bs.length = 0
  · rw [if_pos hb]
    exact block_nil bs hb 299 _
  · rw [if_neg hb, ← fill_zero (rep8 bs) 256]
    exact block_l bs hb 300 0 (by omega) (by omega)
theorem Block_any {w : World} (A : Option Addr) (c : Nat) (bs : List Int) (hC : Kd.C (Kd.int .u8) w A bs.length bs) (hc : bs.length ≤ c) :
    Calls Try.prog 11 #[.slice A bs.length c] w fun e w' => ∃ a c', e = .returned (.slice (some a) 256 c') ∧ 256 ≤ c' ∧ Kd.R (Kd.int .u8) 5 w' w.heap.size (fun _ => True) (.slice (some a) 256 c') (blockOf bs) ∧ Below w.heap.size w w' := by
  refine (chantrylaw06_Block.calls 300 A c bs (blockOf bs) w hC hc (block_plain bs)).mono ?_
  rintro e w' ⟨v, rfl, hr, hb⟩
  obtain ⟨A', c', rfl⟩ := Kd.R_slice hr
  have hl := block_len bs
  obtain ⟨a, ha, _⟩ := Kd.at_int (Kd.R_reads' hr).2.2 0 (by omega) (by omega)
  subst ha
  have hc' := (Kd.R_reads' hr).2.1
  rw [hl] at hr hc' ⊢
  exact ⟨a, c', rfl, hc', hr, hb⟩
end Disk
end Go.Proofs.Ytooemgcijbdilaa
namespace Go.Proofs.Ytooemgcijbdilaa
set_option linter.unusedVariables false
set_option linter.unusedSimpArgs false
open Go.RowKit Go.Proofs.YtooemgcijbdilaaW.PrintWords Go.Proofs.YtooemgcijbdilaaW.PrintLast Go.Proofs.YtooemgcijbdilaaW.PrintMore
namespace Disk
open Go.Disk PDiskDoes

theorem put_block {w : World} {base db sb cs : Nat} {D : Dk} {vw : Value} {sp : List Value} (h : PDx w base db sb D vw cs sp) (n : Nat) (hn : n < D.safe.length) (a : Addr) (c : Nat) (bs : List Int) (hl : bs.length = 256) (hby : ∀ x ∈ bs, 0 ≤ x ∧ x ≤ 255) (hC : Kd.C (Kd.int .u8) w (some a) bs.length bs) :
    ∃ w', (Builtin.copy_ #[30, 30] 3 #[.slice (some ⟨sb, n * 256, none⟩) 256 256, .slice (some a) 256 c]).run Try.prog w = .ok (.int .i64 256) w' ∧ PDx w' base db sb { D with safe := D.safe.set n bs } vw cs sp ∧ Fr (fun k => k = sb) (fun _ _ => False) w w' := by
  have hfl := flatLen h.ok
  obtain ⟨w', h1, h2, h3⟩ := copy_in (w := w) (g := sb) (o := n * 256) (dl := 256) (dc := 256) (sl := 256) (sc := c) a D.safe.flatten bs sp h.safe (by omega) (by rw [hl]; rfl) (fun j hj => by
    obtain ⟨ad, e, hcell⟩ := Kd.at_int hC (j : Int) (by omega) (by omega)
    cases e
    rw [Int.toNat_natCast] at hcell
    rw [hcell]
    unfold rd
    rw [Int.toNat_natCast])
  have hlb := lay_block h.ok.len n hn D.safe[n] bs (h.ok.len _ (List.getElem_mem hn)) 0 (by omega)
  have hself : lay D.safe[n] 0 bs = bs := by
    unfold lay
    rw [List.take_zero, List.nil_append, List.drop_eq_nil_of_le (by rw [h.ok.len _ (List.getElem_mem hn)]; omega), List.append_nil]
  rw [hself, List.set_getElem_self, Nat.add_zero] at hlb
  rw [hlb] at h2
  rw [hl] at h1
  have hok := ok_set h.ok n bs hl hby
  have hfl2 : (D.safe.set n bs).flatten.length = D.safe.flatten.length := by
    rw [flat_len hok.len, hfl, List.length_set]
  refine ⟨w', h1, ⟨hok, h.dbase, h.sbase, h.wown, ?_, ?_, h2, ?_⟩, h3⟩
  · show w'.heap[db]? = some (.cells #[.slice (some ⟨sb, 0, none⟩) (D.safe.set n bs).flatten.length cs, _, _, _, _, _, _] _ _)
    rw [hfl2]
    exact (h3.block db (blk_lt h.cells) h.ne (fun _ _ _ _ h => h)).trans h.cells
  · exact Kd.R_step h.waits (fun j hj hlt => h3.block j hlt hj (fun _ _ _ _ h => h))
  · show (D.safe.set n bs).flatten.length + sp.length = cs
    rw [hfl2]
    exact h.room
def flushTo : List (List Int) → List (Int × List Int) → List (List Int)
  | s, p :: ws => flushTo (s.set p.1.toNat p.2) ws
  | s, [] => s
theorem flushTo_len : ∀ (ws : List (Int × List Int)) (s : List (List Int)), (flushTo s ws).length = s.length
  | [], s => rfl
  | p :: ws, s => by
    show (flushTo (s.set p.1.toNat p.2) ws).length = _
    rw [flushTo_len ws, List.length_set]
theorem flushTo_snoc : ∀ (ws : List (Int × List Int)) (s : List (List Int)) (p : Int × List Int), flushTo s (ws ++ [p]) = (flushTo s ws).set p.1.toNat p.2
  | [], s, p => rfl
  | q :: ws, s, p => flushTo_snoc ws _ p
def safeTo (D : Dk) (i : Nat) : Dk := { D with safe := flushTo D.safe (D.waits.take i) }
theorem safeTo_next (D : Dk) (i : Nat) (hi : i < D.waits.length) : safeTo D (i + 1) = { safeTo D i with safe := (safeTo D i).safe.set D.waits[i].1.toNat D.waits[i].2 } := by
  unfold safeTo
  rw [List.take_succ_eq_append_getElem hi, flushTo_snoc]
/-- Behind a flush. -/
def flushD (D : Dk) : Dk := { safeTo D D.waits.length with waits := [], flushes := wrap64 (D.flushes + 1) }
theorem none_ok {D : Dk} (h : Ok D) : Ok { D with waits := [] } := ⟨h.few, h.len, h.byte, fun p hp => by simp at hp, h.left⟩
set_option maxHeartbeats 8000000 in
set_option maxRecDepth 100000 in
theorem flush_yes {w : World} {base db sb : Nat} {D : Dk} (h : PD w base db sb D) (hr : ready D 0 = 0) (hl : D.left ≠ 0) (hfew : D.waits.length ≤ 1000000) :
    Calls Try.prog 17 #[.pointer (some ⟨db, 0, none⟩)] w fun e w' => e = .returned (.int .i64 0) ∧ PD w' base db sb (flushD (deedD D)) ∧ FP base db sb w w' := by
  have HR := Aside0.mk hr
  have HL := Aside0.mk hl
  have HP := Aside0.mk h
  obtain ⟨E, hE⟩ : ∃ E, E = deedD D := ⟨_, rfl⟩
  have hwe : E.waits = D.waits := by rw [hE]; unfold deedD; rw [if_neg hl]
  rw [← hE]
  rw [← hwe] at hfew
  have HE := Aside0.mk hE
  clear hr hl h hE hwe
  go_enter Try.func17, Try.ntmps17
  go_wp2_with fail
  refine (ready_any 0 HP.out).mono ?_
  rintro e w1 ⟨rfl, rfl⟩
  rw [HR.out]
  go_wp2_with fail
  refine (deed_any HP.out).mono ?_
  rintro e w2 ⟨rfl, hp2, hf2⟩
  rw [if_neg HL.out]
  rw [← HE.out] at hp2
  obtain ⟨vw, cs, sp, hx⟩ := hp2
  have HX := Aside0.mk hx
  have HF2 := Aside0.mk hf2
  obtain ⟨AW, cW, rfl, hcW, _⟩ := Kd.R_reads hx.waits
  have c1 : w2.cell? ⟨db, 1, none⟩ = some (.slice AW E.waits.length cW) := cell_blk hx.cells
  clear hf2 hx
  go_wp2_with fail
  have HXS := Aside0.mk (show PDx w2 base db sb (safeTo E 0) (.slice AW E.waits.length cW) cs sp from HX.out)
  have HFS := Aside0.mk (Fr.refl (fun k => k = sb) (fun _ _ => False) w2)
  go_loopg [22, 6] E.waits.length (fun g v22 v6 wr => ∃ (i : Nat), Aside0 (i + g = E.waits.length) ∧ v22 = .int .i64 i ∧ Aside0 (PDx wr base db sb (safeTo E i) (.slice AW E.waits.length cW) cs sp) ∧ Aside0 (Fr (fun k => k = sb) (fun _ _ => False) w2 wr))
  case atStart => exact ⟨0, ⟨by omega⟩, rfl, HXS, HFS⟩
  case round =>
    clear HXS HFS
    obtain ⟨i, HI, rfl, HXR, HF⟩ := hrel
    by_cases hi : i < E.waits.length
    · obtain ⟨g, cap, vb, hvw, hw0, hw1, hwr, hgs, hgl, _⟩ := W_at HXR.out.waits i hi
      cases hvw
      obtain ⟨ab, cb, hvb, hcb, _⟩ := Kd.R_reads hwr
      subst hvb
      have hat := HX.out.ok.at_ _ (List.getElem_mem hi)
      have HNX := Aside0.mk (safeTo_next E i hi)
      have e1 : (safeTo E i).waits[i]'hi = E.waits[i] := rfl
      rw [e1] at hw0 hw1 hwr hcb
      clear e1
      obtain ⟨N, hN⟩ : ∃ N, N = E.waits[i].1 := ⟨_, rfl⟩
      obtain ⟨bs, hbs⟩ : ∃ bs, bs = E.waits[i].2 := ⟨_, rfl⟩
      rw [← hN, ← hbs] at hat
      rw [← hN] at hw0
      rw [← hbs] at hw1 hwr hcb
      rw [← hN, ← hbs] at HNX
      clear hN hbs
      have HWR := Aside0.mk hwr
      have HAT := Aside0.mk hat
      clear hwr hat
      obtain ⟨aw, haw, _⟩ := Kd.at_int (Kd.R_reads' HWR.out).2.2 0 (by omega) (by have := HAT.out.2.2.1; omega)
      subst haw
      rw [HAT.out.2.2.1] at hw1
      go_wp2_with fail
      obtain ⟨V, hV⟩ : ∃ V, V = wr.alloc (.cells #[.int .i64 N, .slice (some aw) 256 cb] 77) := ⟨_, rfl⟩
      have hal : Below wr.heap.size wr V := by rw [hV]; exact (Below.refl _ _).alloc (Nat.le_refl _) _
      have hbx : V.heap[wr.heap.size]? = some (.cells #[.int .i64 N, .slice (some aw) 256 cb] 77 (0, 0)) := by rw [hV]; exact heap_alloc_new wr _
      rw [← hV]
      have HBX := Aside0.mk hbx
      have HAL := Aside0.mk hal
      have HXV := Aside0.mk (HXR.out.below (hal.trans (below_drew1 (Below.refl _ _))))
      clear hV hal hbx hw0 hw1
      obtain ⟨n, hn⟩ : ∃ n : Nat, N = n := ⟨N.toNat, by have := HAT.out.1; omega⟩
      subst hn
      have hnl : n < (safeTo E i).safe.length := by show n < (flushTo _ _).length; rw [flushTo_len]; have := HAT.out.2.1; omega
      have hfew2 := HXV.out.ok.few
      have hfl : (safeTo E i).safe.flatten.length = (safeTo E i).safe.length * 256 := flatLen HXV.out.ok
      have hroom : (safeTo E i).safe.length * 256 ≤ cs := by have := HXV.out.room; omega
      have hm0 : ∀ m : Go.Reg.In (fun x => x = V.drew), m.w.cell? ⟨db, 0, none⟩ = some (.slice (some ⟨sb, 0, none⟩) ((safeTo E i).safe.length * 256) cs) := fun m => by rw [m.h, ← hfl]; exact cell_blk HXV.out.cells
      have hm1 : ∀ m : Go.Reg.In (fun x => x = V.drew), m.w.cell? ⟨wr.heap.size, 0, none⟩ = some (.int .i64 n) := fun m => by rw [m.h]; exact cell_blk (w := V) HBX.out
      have hm2 : ∀ m : Go.Reg.In (fun x => x = V.drew), m.w.cell? ⟨wr.heap.size, 1, none⟩ = some (.slice (some aw) 256 cb) := fun m => by rw [m.h]; exact cell_blk (w := V) HBX.out
      obtain ⟨L, hL⟩ : ∃ L, L = (safeTo E i).safe.length := ⟨_, rfl⟩
      rw [← hL] at hm0 hfew2 hnl hroom
      have HLL := Aside0.mk hL
      clear hL hfl
      obtain ⟨w7, hcp, hx7, hf7⟩ := put_block HXV.out n (by rw [← HLL.out]; exact hnl) aw cb bs HAT.out.2.2.1 HAT.out.2.2.2 (Kd.R_reads' (Kd.R_below HWR.out (HAL.out.trans (below_drew1 (Below.refl _ _))))).2.2
      have HX7 := Aside0.mk hx7
      have HF7 := Aside0.mk (HF.out.trans ((Fr.of_below (HAL.out.trans (below_drew1 (Below.refl _ _)))).trans hf7))
      clear hx7 hf7
      refine Go.Reg.region (fun x => x = V.drew) [.s, .s, .s, .s, .s, .s, .w, .s, .s, .x] (by kernel_rfl) (by kernel_rfl) rfl (fun ne => ?_)
      refine Go.Reg.lex_q 6 _ _ _ _ (by rfl) ?_; simp only [List.take_succ_cons, List.take_zero, List.drop_succ_cons, List.drop_zero]; (repeat (go_big_quiet_step (rfl))); refine wpQuiet_nil ?_
      refine Go.Reg.step_w (fun K hK => ?_)
      go_wp2_with fail
      refine (block_at sb L cs n hnl (by omega) hroom).mono ?_
      rintro e w5 ⟨rfl, rfl⟩
      go_wp2_with fail
      refine hK.out _ _ rfl ?_
      clear hK K
      refine Go.Reg.lex_q 2 _ _ _ _ (by rfl) ?_; simp only [List.take_succ_cons, List.take_zero, List.drop_succ_cons, List.drop_zero]; (repeat (go_big_quiet_step (rfl))); refine wpQuiet_nil ?_
      refine Go.Reg.step_x (by rfl) (fun K hK => ?_)
      clear hm0 hm1 hm2
      go_wp2_with fail
      refine hK.out _ _ ?_
      clear hK K
      refine Go.Reg.lex_nil ?_
      clear hcp
      go_wp2_with fail
      go_roundg (gk - 1)
      case measure => have := HI.out; omega
      case rel => exact ⟨i + 1, ⟨by have := HI.out; omega⟩, by go_num, ⟨by rw [HNX.out]; exact HX7.out⟩, HF7⟩
    · have hin : i = E.waits.length := by have := HI.out; omega
      subst hin
      have c1' : wr.cell? ⟨db, 1, none⟩ = some (.slice AW E.waits.length cW) := cell_blk HXR.out.cells
      have f1' : wr.frozen? ⟨db, 1, none⟩ = false := frozen_blk HXR.out.cells
      go_wp2_with fail
      have hx := HXR.out
      have hb1 := blk_set hx.cells 1 (.slice none 0 0)
      obtain ⟨w8, hw8⟩ : ∃ w8, w8 = wr.setCell ⟨db, 1, none⟩ (.slice none 0 0) := ⟨_, rfl⟩
      rw [← hw8] at hb1 ⊢
      have hx8 : PDx w8 base db sb { safeTo E E.waits.length with waits := [] } (.slice none 0 0) cs sp := by
        refine ⟨none_ok hx.ok, hx.dbase, hx.sbase, fun _ h => by simp [Value.ownBlock] at h, ?_, Kd.R_nil _ _ _ _ _, ?_, hx.room⟩
        · rw [hb1]; rfl
        · rw [hw8, Below.heap_setCell _ _ _ _ (Ne.symm hx.ne)]; exact hx.safe
      have HX8 := Aside0.mk hx8
      have HF8 := Aside0.mk (show FP base db sb w1 w8 by rw [hw8]; exact HF2.out.trans ((HF.out.mono (fun _ h => .inr h) (fun _ _ h => h.elim)).trans (Fr.set _ _ _ _ (.inl rfl))))
      clear hw8 hb1 hx8 hx c1' f1'
      have c6 : w8.cell? ⟨db, 6, none⟩ = some (.int .i64 E.flushes) := cell_blk HX8.out.cells
      have f6 : w8.frozen? ⟨db, 6, none⟩ = false := frozen_blk HX8.out.cells
      go_wp2_with fail
      refine (add_at _ db 6 E.flushes 1 c6 f6).mono ?_
      rintro e w9 ⟨rfl, hw9⟩
      have hp9 : PD w9 base db sb (flushD E) := ⟨.slice none 0 0, cs, sp, by rw [hw9]; exact HX8.out.put 6 _ (D' := flushD E) (cnt_ok HX8.out.ok rfl rfl rfl) rfl rfl rfl⟩
      have hf9 : FP base db sb w1 w9 := by rw [hw9]; exact HF8.out.trans (.set _ _ _ _ (.inl rfl))
      clear hw9
      go_wp2_with fail
      go_ret
      exact ⟨rfl, hp9, hf9⟩
end Disk
end Go.Proofs.Ytooemgcijbdilaa
namespace Go.Proofs.Ytooemgcijbdilaa
set_option linter.unusedVariables false
set_option linter.unusedSimpArgs false
open Go.RowKit Go.Proofs.YtooemgcijbdilaaW.PrintWords Go.Proofs.YtooemgcijbdilaaW.PrintLast Go.Proofs.YtooemgcijbdilaaW.PrintMore
namespace Disk
open Go.Disk PDiskDoes

/-- What all blocks are. -/
def imageTo (D : Dk) (i : Nat) : List Int := ((List.range i).map (fun n : Nat => nowD D (n : Int))).flatten
def imageD (D : Dk) : List Int := imageTo D D.safe.length
theorem imageTo_next (D : Dk) (i : Nat) : imageTo D (i + 1) = imageTo D i ++ nowD D (i : Int) := by
  unfold imageTo
  rw [List.range_succ, List.map_append, List.flatten_append, List.map_cons, List.map_nil, List.flatten_cons, List.flatten_nil, List.append_nil]
theorem imageTo_len {D : Dk} (h : Ok D) : ∀ i, i ≤ D.safe.length → (imageTo D i).length = i * 256
  | 0, _ => by simp [imageTo]
  | i + 1, hi => by
    rw [imageTo_next, List.length_append, imageTo_len h i (by omega), (now_len h (i : Int) ⟨by omega, by omega⟩).1]
    omega
set_option maxHeartbeats 8000000 in
set_option maxRecDepth 100000 in
theorem image_any {w : World} {base db sb : Nat} {D : Dk} (h : PD w base db sb D) (hfew : D.waits.length ≤ 1000000) :
    Calls Try.prog 29 #[.pointer (some ⟨db, 0, none⟩)] w fun e w' => ∃ v, e = .returned v ∧ Kd.R (Kd.int .u8) 5 w' w.heap.size (fun _ => True) v (imageD D) ∧ Below w.heap.size w w' := by
  have HP := Aside0.mk h
  have HOK := Aside0.mk h.ok
  have hn := h.ok.few
  obtain ⟨n, hnn⟩ : ∃ n, n = D.safe.length := ⟨_, rfl⟩
  have HN := Aside0.mk hnn
  rw [← hnn] at hn
  clear h hnn
  go_enter Try.func29, Try.ntmps29
  go_wp2_with fail
  refine (blocks_any HP.out).mono ?_
  rintro e w1 ⟨rfl, rfl⟩
  rw [← HN.out]
  go_wp2_with fail
  go_loopg [7, 4, 3] n (fun g v7 v4 v3 wr => ∃ (i : Nat) (A : Option Addr) (c : Nat), Aside0 (i + g = n) ∧ v7 = .int .i64 i ∧ v3 = .slice A (imageTo D i).length c ∧ Aside0 (Kd.R (Kd.int .u8) 5 wr w1.heap.size (fun _ => True) (.slice A (imageTo D i).length c) (imageTo D i)) ∧ Aside0 (Below w1.heap.size w1 wr))
  case atStart => exact ⟨0, none, 0, ⟨by omega⟩, rfl, rfl, ⟨Kd.R_nil _ _ _ _ _⟩, ⟨Below.refl _ _⟩⟩
  case round =>
    obtain ⟨i, A, c, HI, rfl, rfl, HR, HB⟩ := hrel
    by_cases hi : i < n
    · go_wp2_with fail
      refine (now_any (HP.out.below HB.out) (i : Int) ⟨by omega, by rw [← HN.out]; omega⟩ (by omega)).mono ?_
      rintro e w2 ⟨a2, c2, rfl, hc2, hC2, b⟩
      have HC2 := Aside0.mk hC2
      have HR2 := Aside0.mk (Kd.R_below HR.out b)
      have HB2 := Aside0.mk (HB.out.trans (b.mono HB.out.size))
      clear hC2 b
      go_wp2_with ((with_reducible refine gate_builtin (b := .append) (xs := #[.tmp 10, .tmp 13]) rfl ?_); at_builtin; refine Hid.out ?_)
      refine Lib.hid ?_
      have hlen := imageTo_len HOK.out i (by rw [← HN.out]; omega)
      refine Kd.R_append_rows (Kd.int .u8) (Rr := (Kd.int .u8).K w2) (w0 := w1) w1.heap.size rfl (.tmp 10) (.tmp 13) 30 5 (.int .u8 0) 1 rfl Try.underlying30 infoU8 rfl (by decide) (by omega) (.slice A (imageTo D i).length c) (imageTo D i) (nowD D (i : Int)) (some a2) 256 c2 (fun _ => True) (fun _ => False) rfl rfl HR2.out HC2.out (fun x cs h => h) (fun _ hk => hk.elim) (fun _ _ => trivial) HB2.out HB2.out.size (by omega) ?_
      intro v3 w3 ho hb _ _
      obtain ⟨A3, c3, rfl⟩ := Kd.R_slice ho
      rw [← imageTo_next] at ho ⊢
      have HO := Aside0.mk ho
      have HB3 := Aside0.mk hb
      clear ho hb hlen
      go_wp2_with fail
      go_roundg (gk - 1)
      case measure => have := HI.out; omega
      case rel => exact ⟨i + 1, A3, c3, ⟨by have := HI.out; omega⟩, by go_num, rfl, HO, HB3⟩
    · have hin : i = n := by have := HI.out; omega
      subst hin
      go_wp2_with fail
      go_ret
      refine ⟨_, rfl, ?_, HB.out⟩
      unfold imageD
      rw [← HN.out]
      exact HR.out
set_option maxHeartbeats 8000000 in
set_option maxRecDepth 100000 in
theorem safe_any {w : World} {base db sb : Nat} {D : Dk} (h : PD w base db sb D) :
    Calls Try.prog 24 #[.pointer (some ⟨db, 0, none⟩)] w fun e w' => ∃ v, e = .returned v ∧ Kd.R (Kd.int .u8) 5 w' w.heap.size (fun _ => True) v D.safe.flatten ∧ Below w.heap.size w w' := by
  obtain ⟨vw, cs, sp, hx⟩ := h
  have c0 : w.cell? ⟨db, 0, none⟩ = some (.slice (some ⟨sb, 0, none⟩) D.safe.flatten.length cs) := cell_blk hx.cells
  have hfl := flatLen hx.ok
  have hfew := hx.ok.few
  have HX := Aside0.mk hx
  clear hx
  obtain ⟨F, hF⟩ : ∃ F, F = D.safe.flatten := ⟨_, rfl⟩
  have HF := Aside0.mk hF
  have hle : F.length ≤ 262144 := by rw [hF]; omega
  rw [← hF] at c0 ⊢
  clear hF hfl
  go_enter Try.func24, Try.ntmps24
  go_wp2_with fail
  refine (clone8 ⟨sb, 0, none⟩ cs F ?c1 hle).mono ?_
  case c1 =>
    have hs := HX.out.safe
    rw [← HF.out] at hs
    refine ⟨rfl, by omega, fun _ => ⟨_, rfl, fun j p hj => ⟨[.int .u8 p], rfl, rfl, fun i u hu => ?_⟩⟩⟩
    have hjl : j < F.length := by
      rcases Nat.lt_or_ge j F.length with h' | h'
      · exact h'
      · rw [List.getElem?_eq_none h'] at hj; cases hj
    have hi : i = 0 := by
      rcases Nat.eq_zero_or_pos i with h' | h'
      · exact h'
      · rw [List.getElem?_eq_none (by simp; omega)] at hu; cases hu
    subst hi
    simp at hu
    subst hu
    have hadd : (⟨sb, 0, none⟩ : Addr).add (j * (Kd.int .u8).sz + 0) = ⟨sb, j, none⟩ := by
      rw [show j * (Kd.int .u8).sz + 0 = j from by show j * 1 + 0 = j; omega]
      unfold Addr.add
      split <;> simp_all
    rw [hadd, cell_blk hs, List.getElem?_toArray, List.getElem?_append_left (by rw [u8s_len]; exact hjl)]
    unfold u8s
    rw [List.getElem?_map, hj]
    rfl
  rintro e w2 ⟨v, rfl, hr, _, b⟩
  have HR := Aside0.mk hr
  have HB := Aside0.mk b
  clear hr b
  go_wp2_with fail
  go_ret
  exact ⟨_, rfl, HR.out, HB.out⟩
end Disk
end Go.Proofs.Ytooemgcijbdilaa
namespace Go.Proofs.Ytooemgcijbdilaa
set_option linter.unusedVariables false
set_option linter.unusedSimpArgs false
open Go.RowKit Go.Proofs.YtooemgcijbdilaaW.PrintWords Go.Proofs.YtooemgcijbdilaaW.PrintLast Go.Proofs.YtooemgcijbdilaaW.PrintMore
namespace Disk
open Go.Disk PDiskDoes

def chunks (xs : List Int) (n : Nat) : List (List Int) := (List.range n).map (fun i : Nat => (xs.drop (i * 256)).take 256)
theorem chunks_len (xs : List Int) (n : Nat) : (chunks xs n).length = n := by simp [chunks]
theorem chunks_succ (xs : List Int) (n : Nat) : chunks xs (n + 1) = chunks xs n ++ [(xs.drop (n * 256)).take 256] := by
  unfold chunks
  rw [List.range_succ, List.map_append, List.map_cons, List.map_nil]
theorem chunks_flat (xs : List Int) : ∀ n, (chunks xs n).flatten = xs.take (n * 256)
  | 0 => by simp [chunks]
  | n + 1 => by
    rw [chunks_succ, List.flatten_append, chunks_flat xs n, List.flatten_cons, List.flatten_nil, List.append_nil, Nat.succ_mul, List.take_add]
theorem chunks_mem {xs : List Int} {n : Nat} (h : xs.length = n * 256) {b : List Int} (hb : b ∈ chunks xs n) : b.length = 256 ∧ ∀ x ∈ b, x ∈ xs := by
  simp only [chunks, List.mem_map, List.mem_range] at hb
  obtain ⟨i, hi, rfl⟩ := hb
  refine ⟨by rw [List.length_take, List.length_drop]; omega, fun x hx => List.mem_of_mem_drop (List.mem_of_mem_take hx)⟩
def loadD (xs : List Int) (n : Nat) : Dk := ⟨chunks xs n, [], -1, false, 0, 0, 0⟩
theorem load_ok (xs : List Int) (n : Nat) (hl : xs.length = n * 256) (h : 16 ≤ n ∧ n ≤ 1024) (hb : ∀ x ∈ xs, 0 ≤ x ∧ x ≤ 255) : Ok (loadD xs n) :=
  ⟨by show 16 ≤ (chunks xs n).length ∧ (chunks xs n).length ≤ 1024; rw [chunks_len]; exact h, fun b hb' => (chunks_mem hl hb').1, fun b hb' x hx => hb x ((chunks_mem hl hb').2 x hx), fun p hp => by simp [loadD] at hp, by simp [loadD]⟩
theorem row_cells {w : World} {base : Nat} {ok : Nat → Prop} {v : Value} {xs : List Int} (h : Kd.R (Kd.int .u8) 5 w base ok v xs) (hne : xs.length ≠ 0) :
    ∃ g cap sp, v = .slice (some ⟨g, 0, none⟩) xs.length cap ∧ base ≤ g ∧ w.heap[g]? = some (.cells (u8s xs ++ sp).toArray 5 (0, 0)) ∧ xs.length + sp.length = cap := by
  have ho := Kd.own_of_R h
  rcases ho.2 with ⟨_, hz⟩ | ⟨g, cap, cur, rfl, hbase, hb, hn, hmx, hcs, hcur⟩
  · rw [hz] at hne; exact absurd rfl hne
  · refine ⟨g, cap, cur.toList.drop xs.length, rfl, hbase, ?_, ?_⟩
    · rw [hb]
      have : cur = (u8s xs ++ cur.toList.drop xs.length).toArray := by
        apply Array.ext'
        have e : u8s xs = cur.toList.take xs.length := by rw [Nat.mul_one] at hcur; exact hcur.symm
        rw [e]
        simp
      rw [← this]
    · rw [List.length_drop]
      have : cur.toList.length = cap := by simpa using hcs
      omega
set_option maxHeartbeats 8000000 in
set_option maxRecDepth 100000 in
theorem load_yes {w : World} (a : Addr) (c : Nat) (xs : List Int) (n : Nat) (hl : xs.length = n * 256) (hn : 16 ≤ n ∧ n ≤ 1024) (hC : Kd.C (Kd.int .u8) w (some a) xs.length xs) (hby : ∀ x ∈ xs, 0 ≤ x ∧ x ≤ 255) :
    Calls Try.prog 22 #[.slice (some a) xs.length c] w fun e w' => ∃ db sb, e = .returned (.tuple #[.pointer (some ⟨db, 0, none⟩), .int .i64 0]) ∧ PD w' w.heap.size db sb (loadD xs n) ∧ Below w.heap.size w w' := by
  have HC := Aside0.mk hC
  have HOK := Aside0.mk (load_ok xs n hl hn hby)
  have HL := Aside0.mk hl
  obtain ⟨h1, h2⟩ := hn
  clear hC hby
  rw [hl]
  clear hl
  go_enter Try.func22, Try.ntmps22
  go_wp2_with fail
  refine (disk_blocks.calls n true w (by unfold disk_blocks.f; rw [if_pos (by omega)]; simp; omega)).mono ?_
  rintro e w1 ⟨rfl, ⟨k, rfl⟩⟩
  obtain ⟨w1, hw1⟩ : ∃ w1, w1 = w.drewN k := ⟨_, rfl⟩
  rw [← hw1]
  have HB := Aside0.mk (show Below w.heap.size w w1 by rw [hw1]; exact pw_below_drewN (Below.refl _ _) k)
  clear hw1
  go_wp2_with fail
  have hcl := clone8 a c xs (Kd.C_below HC.out HB.out) (by rw [HL.out]; omega)
  rw [HL.out] at hcl
  refine hcl.mono ?_
  rintro e w2 ⟨v, rfl, hr, _, b⟩
  obtain ⟨sb, cap, sp, rfl, hsb, hcells, hcap⟩ := row_cells hr (by rw [HL.out]; omega)
  have HS := Aside0.mk hcells
  have HC2 := Aside0.mk (show w.heap.size ≤ sb ∧ xs.length + sp.length = cap from ⟨Nat.le_trans HB.out.size hsb, hcap⟩)
  have HB2 := Aside0.mk (HB.out.trans (b.mono HB.out.size))
  clear hcl hr b hcells hsb hcap
  rw [HL.out]
  go_wp2_with fail
  go_ret2
  have hb2 := (Below.refl w2.heap.size w2).alloc (Nat.le_refl _) (.cells #[.slice (some ⟨sb, 0, none⟩) (n * 256) cap, .slice none 0 0, .int .i64 (-1), .bool false, .int .i64 0, .int .i64 0, .int .i64 0] 75)
  have hh2 := heap_alloc_new w2 (.cells #[.slice (some ⟨sb, 0, none⟩) (n * 256) cap, .slice none 0 0, .int .i64 (-1), .bool false, .int .i64 0, .int .i64 0, .int .i64 0] 75)
  have hfl : (loadD xs n).safe.flatten = xs := by
    show (chunks xs n).flatten = xs
    rw [chunks_flat, ← HL.out, List.take_length]
  refine ⟨w2.heap.size, sb, rfl, ⟨.slice none 0 0, cap, sp, ⟨HOK.out, HB2.out.size, HC2.out.1, fun _ h => by simp [Value.ownBlock] at h, ?_, Kd.R_nil _ _ _ _ _, ?_, ?_⟩⟩, HB2.out.trans (hb2.mono HB2.out.size)⟩
  · rw [hfl, HL.out]
    exact hh2
  · rw [hfl]
    exact (hb2.block _ (blk_lt HS.out)).trans HS.out
  · rw [hfl]
    exact HC2.out.2
set_option maxHeartbeats 8000000 in
set_option maxRecDepth 100000 in
theorem load_size {w : World} (A : Option Addr) (c l : Nat) (n : Nat) (hl : l = n * 256) (hmx : l ≤ 1000000000) (hn : n < 16 ∨ 1024 < n) :
    Calls Try.prog 22 #[.slice A l c] w fun e w' => e = .returned (.tuple #[.pointer none, .int .i64 11]) ∧ Below w.heap.size w w' := by
  subst hl
  go_enter Try.func22, Try.ntmps22
  go_wp2_with fail
  refine (disk_blocks.calls n false w (by unfold disk_blocks.f; by_cases h0 : (n : Int) ≥ 16; rw [if_pos h0]; simp; omega; rw [if_neg h0])).mono ?_
  rintro e w1 ⟨rfl, ⟨k, rfl⟩⟩
  go_wp2_with fail
  go_ret2
  exact ⟨rfl, pw_below_drewN (Below.refl _ _) k⟩
end Disk
end Go.Proofs.Ytooemgcijbdilaa
