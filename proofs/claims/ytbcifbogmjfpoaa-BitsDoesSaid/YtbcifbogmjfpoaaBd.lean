/- Sets of bits: contracts, ninth part. -/
import Derived.Test.YtbcifbogmjfpoaaBt
import Derived.Test.YtbcifbogmjfpoaaPBitsClonesx
import Derived.Test.YtbcifbogmjfpoaaPBitsDoesx
import Derived.Below
import Derived.Test.YtbcifbogmjfpoaaReg
import Derived.Deep.MidRow
import Derived.Deep.WholeRow
import Derived.Great.BuildSlice
import Derived.Lib.Hide
import Derived.OwnWalk
import Derived.WalkKit
import Derived.KernelRfl
import Derived.RowKit3
import Derived.Deep.LoopGhost
import Derived.Deep.QuietTactic
import Derived.BigQuiet
import Derived.WideLaws
import Derived.Outline
import Derived.Deep.DeepCutAuto
import Derived.Deep.CutBlock
import Derived.WalkSpells
import Derived.RegionTactic
import Derived.BigRegion
import Derived.WalkLawsBesides
namespace Go.Proofs.Ytbcifbogmjfpoaa
set_option linter.unusedVariables false
set_option linter.unusedSimpArgs false
open Go.RowKit Go.Proofs.YtbcifbogmjfpoaaW.PrintWords Go.Proofs.YtbcifbogmjfpoaaW.PrintLast Go.Proofs.YtbcifbogmjfpoaaW.PrintMore
namespace Bits
open Go.Bits
open PBitsDoes
open PBitsClones (S42 k42 at_T42 rd_T42)
theorem two_start {w w1 w2 : World} {sb : Nat} {v : Value} {l : List Bool} (hsb : sb = w.heap.size) (ha : At w1 sb l) (hb : Below w.heap.size w w1) (hr : Row w2 w1.heap.size v l) (hb2 : Below w1.heap.size w1 w2) (hl : l.length ≤ 4096) :
    Two w (w2.alloc (.cells #[v] 38)) sb w2.heap.size v l := by
  have hs2 := ha.lt
  have hb2s := hb2.size
  have hbw : Below w.heap.size w w2 := hb.trans (hb2.mono hb.size)
  exact ⟨At.below (At.below ha hb2) (Below.alloc (Below.refl _ _) (Nat.le_refl _) _), heap_alloc_new w2 _, Kd.R_alloc (Kd.R_lower hr hb.size) _, hbw.alloc hbw.size _, by omega, hbw.size, by omega, hl⟩
theorem Two.mid {w0 w w1 w2 : World} {sb xb : Nat} {v : Value} {l l' : List Bool} (h : Two w0 w sb xb v l) (ha : At w1 sb l') (hg : w.grownBy w1 (some sb)) (hk : Kept w1.drew w2 (fun k => some k = v.ownBlock)) : w2.heap[xb]? = some (.cells #[v] 38 (0, 0)) := by
  obtain ⟨p1, p2, p3, p4⟩ := h.prog ha hg
  exact (hk.2 xb (Array.getElem?_eq_some_iff.1 p2).1 h.xown).trans p2
set_option maxHeartbeats 8000000 in
set_option maxRecDepth 100000 in
theorem does_main (n : Nat) (A : Option Addr) (c : Nat) (ys : List S42) (w : World) (hn : n ≤ 4096) (hx : ys.length ≤ 60) (hr : Kd.C k42 w A ys.length ys) (hc : ys.length ≤ c) :
    Calls Try.prog 6 #[.int .i64 n, .slice A ys.length c] w fun e w' => e = .returned (.bool true) ∧ Below w.heap.size w w' := by
  have HYS := Lib.hid hr
  clear hr
  go_enter Try.func6, Try.ntmps6
  go_wp2_with fail
  refine (of_at n _ hn).mono ?_
  rintro e w1 ⟨rfl, a1, b1⟩
  obtain ⟨sb, hsb⟩ : ∃ sb, sb = w.heap.size := ⟨_, rfl⟩
  rw [← hsb] at a1 ⊢
  have HA := Lib.hid a1
  have HB := Lib.hid b1
  have HSE := Lib.hid hsb
  clear a1 b1 hsb
  go_wp2_with fail
  refine (refof_yes n _ hn).mono ?_
  rintro e w2 ⟨v, rfl, hr, b2⟩
  have HTW := Aside0.mk (two_start HSE.out HA.out HB.out hr b2 (by simpa using hn))
  obtain ⟨AX0, cX0, rfl⟩ := Kd.R_slice hr
  clear hr b2 HA HB HSE
  go_wp2_with fail
  go_loopg [9, 10, 11, 12, 66, 85] ys.length (fun g v9 v10 v11 v12 v66 v85 wr => ∃ (i : Nat) (l : List Bool) (AX : Option Addr) (cX : Nat), Aside0 (i + g = ys.length) ∧ v9 = .int .i64 i ∧ Aside0 (Two w wr sb w2.heap.size (.slice AX l.length cX) l))
  case atStart => exact ⟨0, List.replicate n false, AX0, cX0, ⟨by omega⟩, rfl, by simpa only [List.length_replicate] using HTW⟩
  case round =>
    clear HTW
    obtain ⟨i, l, AX, cX, HI, rfl, HTW⟩ := hrel
    by_cases hi : i < ys.length
    · obtain ⟨ad, rfl, hc0, hc1⟩ := at_T42 HYS.out i (by omega) (by omega)
      obtain ⟨K, hK⟩ : ∃ y, y = (rd_T42 ys i).f0 := ⟨_, rfl⟩
      obtain ⟨y, hy⟩ : ∃ y, y = (rd_T42 ys i).f1 := ⟨_, rfl⟩
      rw [← hK, Int.toNat_natCast] at hc0
      rw [← hy, Int.toNat_natCast] at hc1
      have hd0 := (HTW.out.bel.cell (World.block_lt_of_cell? w _ hc0)).trans hc0
      have hd1 := (HTW.out.bel.cell (World.block_lt_of_cell? w _ hc1)).trans hc1
      have HC1 := Lib.hid hc1
      clear hc0 hc1 hK hy
      by_cases hk1 : K = 1
      · subst hk1
        go_wp2_with (go_at_call 25; refine (add_any sb l y _ HTW.out.at_).mono ?_; rintro e w3 ⟨rfl, a, g⟩)
        have HA3 := Lib.hid a
        have HG3 := Lib.hid g
        clear a g
        have HX3 := Lib.hid (HTW.out.prog HA3.out HG3.out)
        have HC3 := Lib.hid ((HX3.out.2.2.2.cell (World.block_lt_of_cell? w _ HC1.out)).trans HC1.out)
        refine Go.Reg.region (fun x => x = w3.drew) [.s, .s, .s, .s, .s, .s, .x, .p, .p, .p, .x, .p] (by kernel_rfl) (by kernel_rfl) rfl (fun ne => ?_)
        have hx0 : ∀ m : Go.Reg.In (fun x => x = w3.drew), m.w.cell? ⟨w2.heap.size, 0, none⟩ = some (.slice AX l.length cX) := fun m => by rw [m.h]; exact cell_blk (w := w3) HX3.out.2.1
        have hx1 : ∀ m : Go.Reg.In (fun x => x = w3.drew), m.w.cell? ⟨(ad.add (i * 2)).block, (ad.add (i * 2)).off + 1, none⟩ = some (.int .i64 y) := fun m => by rw [m.h]; exact HC3.out
        refine Go.Reg.lex_q 6 _ _ _ _ (by rfl) ?_; simp only [List.take_succ_cons, List.take_zero, List.drop_succ_cons, List.drop_zero]; (repeat (go_big_quiet_step (fail))); refine wpQuiet_nil ?_
        refine Go.Reg.step_x (by rfl) (fun K hK => ?_)
        go_wp2_with fail
        refine (refadd (w0 := w) (w := w3.drew) y HX3.out.2.2.2.drew (Kd.R_drew HX3.out.2.2.1) HTW.out.len).mono ?_
        rintro e w4 ⟨v', rfl, hr, hb, hk⟩
        have HTN := Aside0.mk (HTW.out.next HA3.out HG3.out (by rw [addL_len]; exact HTW.out.len) hr hb hk)
        obtain ⟨AN, cN, rfl⟩ := Kd.R_slice hr
        have hxm := HTW.out.mid HA3.out HG3.out hk
        have hxc : w4.cell? ⟨w2.heap.size, 0, none⟩ = some (.slice AX l.length cX) := cell_blk hxm
        have hxf : w4.frozen? ⟨w2.heap.size, 0, none⟩ = false := frozen_blk hxm
        clear hr hb hk hxm
        go_wp2_with fail
        refine hK.out _ _ ?_
        clear hK K
        refine Go.Reg.lex_qp 3 _ _ _ _ _ (by rfl) ?_; simp only [List.take_succ_cons, List.take_zero, List.drop_succ_cons, List.drop_zero]; (repeat (go_big_quiet_step (fail))); refine wpQuiet_nil ?_
        refine Go.Reg.step_x (by rfl) (fun K hK => ?_)
        go_wp2_with fail
        refine hK.out _ _ ?_
        clear hK K
        refine Go.Reg.lex_qp 1 _ _ _ _ _ (by rfl) ?_; simp only [List.take_succ_cons, List.take_zero, List.drop_succ_cons, List.drop_zero]; (repeat (go_big_quiet_step (fail))); refine wpQuiet_nil ?_
        refine Go.Reg.lex_nil ?_
        go_wp2_with fail
        refine (reflist HTN.out.row HTN.out.len).mono ?_
        rintro e w5 ⟨u, rfl, hru, b5⟩
        replace HTN := Aside0.mk (HTN.out.below (below_drew1 b5))
        obtain ⟨AU, cU, rfl, hcU, hCU⟩ := Kd.R_reads hru
        have HCU := Aside0.mk (Kd.C_drew hCU)
        have hbn : (!(hasL (addL l y).1 y == hasL (addL l y).1 y)) = false := by simp
        clear hru b5 hCU
        go_wp2_with fail
        dsimp only [List.append]
        refine Go.Reg.region (Below w5.heap.size w5.drew) [.s, .s, .s, .s, .s, .s, .s, .s, .s, .s, .w, .s, .s, .s, .s, .s, .s, .w, .s, .s, .s, .s, .s, .s, .s, .s, .s, .w, .s, .s, .s, .s, .s, .s, .w, .s, .s, .s, .s, .s, .s, .s, .s, .s, .w, .s, .s, .s, .s, .s, .s, .w, .s, .s, .s, .s, .w, .s, .s, .s, .s, .s, .s, .w, .s, .w, .s, .s] (by kernel_rfl) (by kernel_rfl) (Below.refl _ _) (fun ne => ?_)
        have hx5 : ∀ m : Go.Reg.In (Below w5.heap.size w5.drew), m.w.cell? ⟨w2.heap.size, 0, none⟩ = some (.slice AN (addL l y).1.length cN) := fun m => cell_blk (HTN.out.below m.h).var
        have hd5 : ∀ m : Go.Reg.In (Below w5.heap.size w5.drew), m.w.cell? ⟨(ad.add (i * 2)).block, (ad.add (i * 2)).off + 1, none⟩ = some (.int .i64 y) := fun m => ((HTN.out.below m.h).bel.cell (World.block_lt_of_cell? w _ HC1.out)).trans HC1.out
        have HX5 := Lib.hid hx5
        have HD5 := Lib.hid hd5
        have HBW := Aside0.mk (Below.refl w5.heap.size w5.drew)
        refine Go.Reg.lex_q 10 _ _ _ _ (by rfl) ?_; simp only [List.take_succ_cons, List.take_zero, List.drop_succ_cons, List.drop_zero]; (repeat (go_big_quiet_step (rfl))); refine wpQuiet_nil ?_
        refine Go.Reg.step_w (fun K hK => ?_)
        go_wp2_with fail
        refine (has_any sb (addL l y).1 y _ HTN.out.at_).mono ?_
        rintro e w' ⟨rfl, rfl⟩
        go_wp2_with fail
        refine hK.out _ _ HBW.out ?_
        clear hK K
        refine Go.Reg.lex_q 6 _ _ _ _ (by rfl) ?_; simp only [List.take_succ_cons, List.take_zero, List.drop_succ_cons, List.drop_zero]; (repeat (go_big_quiet_step (rfl))); refine wpQuiet_nil ?_
        refine Go.Reg.step_w (fun K hK => ?_)
        go_wp2_with fail
        refine (refhas y HTN.out.row).mono ?_
        rintro e w6 ⟨rfl, b⟩
        replace HBW := Aside0.mk (HBW.out.trans (b.mono HBW.out.size))
        replace HTN := Aside0.mk (HTN.out.below b)
        replace HCU := Aside0.mk (Kd.C_below HCU.out b)
        clear b
        go_wp2_with fail
        refine hK.out _ _ HBW.out ?_
        clear hK K
        refine Go.Reg.lex_q 9 _ _ _ _ (by rfl) ?_; simp only [List.take_succ_cons, List.take_zero, List.drop_succ_cons, List.drop_zero]; (repeat (go_big_quiet_step (rfl))); refine wpQuiet_nil ?_
        refine Go.Reg.step_w (fun K hK => ?_)
        go_wp2_with fail
        refine (next_any sb (addL l y).1 y _ HTN.out.at_).mono ?_
        rintro e w' ⟨rfl, rfl⟩
        go_wp2_with fail
        refine hK.out _ _ HBW.out ?_
        clear hK K
        refine Go.Reg.lex_q 6 _ _ _ _ (by rfl) ?_; simp only [List.take_succ_cons, List.take_zero, List.drop_succ_cons, List.drop_zero]; (repeat (go_big_quiet_step (rfl))); refine wpQuiet_nil ?_
        refine Go.Reg.step_w (fun K hK => ?_)
        go_wp2_with fail
        refine (reffirst y true HTN.out.row HTN.out.len).mono ?_
        rintro e w7 ⟨rfl, b⟩
        replace HBW := Aside0.mk (HBW.out.trans (b.mono HBW.out.size))
        replace HTN := Aside0.mk (HTN.out.below b)
        replace HCU := Aside0.mk (Kd.C_below HCU.out b)
        clear b
        go_wp2_with fail
        refine hK.out _ _ HBW.out ?_
        clear hK K
        refine Go.Reg.lex_q 9 _ _ _ _ (by rfl) ?_; simp only [List.take_succ_cons, List.take_zero, List.drop_succ_cons, List.drop_zero]; (repeat (go_big_quiet_step (rfl))); refine wpQuiet_nil ?_
        refine Go.Reg.step_w (fun K hK => ?_)
        go_wp2_with fail
        refine (gap_any sb (addL l y).1 y _ HTN.out.at_).mono ?_
        rintro e w' ⟨rfl, rfl⟩
        go_wp2_with fail
        refine hK.out _ _ HBW.out ?_
        clear hK K
        refine Go.Reg.lex_q 6 _ _ _ _ (by rfl) ?_; simp only [List.take_succ_cons, List.take_zero, List.drop_succ_cons, List.drop_zero]; (repeat (go_big_quiet_step (rfl))); refine wpQuiet_nil ?_
        refine Go.Reg.step_w (fun K hK => ?_)
        go_wp2_with fail
        refine (reffirst y false HTN.out.row HTN.out.len).mono ?_
        rintro e w8 ⟨rfl, b⟩
        replace HBW := Aside0.mk (HBW.out.trans (b.mono HBW.out.size))
        replace HTN := Aside0.mk (HTN.out.below b)
        replace HCU := Aside0.mk (Kd.C_below HCU.out b)
        clear b
        go_wp2_with fail
        refine hK.out _ _ HBW.out ?_
        clear hK K
        refine Go.Reg.lex_q 4 _ _ _ _ (by rfl) ?_; simp only [List.take_succ_cons, List.take_zero, List.drop_succ_cons, List.drop_zero]; (repeat (go_big_quiet_step (rfl))); refine wpQuiet_nil ?_
        refine Go.Reg.step_w (fun K hK => ?_)
        go_wp2_with fail
        refine (count_any sb (addL l y).1 _ HTN.out.at_).mono ?_
        rintro e w' ⟨rfl, rfl⟩
        go_wp2_with fail
        refine hK.out _ _ HBW.out ?_
        clear hK K
        refine Go.Reg.lex_q 6 _ _ _ _ (by rfl) ?_; simp only [List.take_succ_cons, List.take_zero, List.drop_succ_cons, List.drop_zero]; (repeat (go_big_quiet_step (rfl))); refine wpQuiet_nil ?_
        refine Go.Reg.step_w (fun K hK => ?_)
        go_wp2_with fail
        refine (list_any sb (addL l y).1 _ HTN.out.at_ HTN.out.len).mono ?_
        rintro e w9 ⟨u9, rfl, hr9, b⟩
        replace HBW := Aside0.mk (HBW.out.trans (b.mono HBW.out.size))
        replace HTN := Aside0.mk (HTN.out.below b)
        replace HCU := Aside0.mk (Kd.C_below HCU.out b)
        obtain ⟨A9, c9, rfl, hc9, hC9⟩ := Kd.R_reads hr9
        have HC9 := Aside0.mk hC9
        clear hr9 b hC9
        go_wp2_with fail
        refine hK.out _ _ HBW.out ?_
        clear hK K
        refine Go.Reg.lex_q 1 _ _ _ _ (by rfl) ?_; simp only [List.take_succ_cons, List.take_zero, List.drop_succ_cons, List.drop_zero]; (repeat (go_big_quiet_step (rfl))); refine wpQuiet_nil ?_
        refine Go.Reg.step_w (fun K hK => ?_)
        go_wp2_with fail
        refine (ints_eq _ _ _ _ _ _ (listL (addL l y).1) _ rfl rfl (listL_len (addL l y).1 HTN.out.len) HC9.out hc9 HCU.out hcU).mono ?_
        rintro e w10 ⟨rfl, ⟨nd, rfl⟩⟩
        replace HBW := Aside0.mk (pw_below_drewN HBW.out nd)
        replace HTN := Aside0.mk (HTN.out.below (pw_below_drewN (Below.refl _ _) nd))
        go_wp2_with fail
        refine hK.out _ _ HBW.out ?_
        clear hK K
        refine Go.Reg.lex_q 2 _ _ _ _ (by rfl) ?_; simp only [List.take_succ_cons, List.take_zero, List.drop_succ_cons, List.drop_zero]; (repeat (go_big_quiet_step (rfl))); refine wpQuiet_nil ?_
        refine Go.Reg.lex_nil ?_
        go_wp2_with fail
        go_roundg (gk - 1)
        case measure => have := HI.out; omega
        case rel => exact ⟨i + 1, (addL l y).1, AN, cN, ⟨by have := HI.out; omega⟩, by go_num, HTN⟩
      · by_cases hk2 : K = 2
        · subst hk2
          go_wp2_with (go_at_call 27; refine (drop_any sb l y _ HTW.out.at_).mono ?_; rintro e w3 ⟨rfl, a, g⟩)
          have HA3 := Lib.hid a
          have HG3 := Lib.hid g
          clear a g
          have HX3 := Lib.hid (HTW.out.prog HA3.out HG3.out)
          have HC3 := Lib.hid ((HX3.out.2.2.2.cell (World.block_lt_of_cell? w _ HC1.out)).trans HC1.out)
          refine Go.Reg.region (fun x => x = w3.drew) [.s, .s, .s, .s, .s, .s, .x, .p, .p, .p, .x, .p] (by kernel_rfl) (by kernel_rfl) rfl (fun ne => ?_)
          have hx0 : ∀ m : Go.Reg.In (fun x => x = w3.drew), m.w.cell? ⟨w2.heap.size, 0, none⟩ = some (.slice AX l.length cX) := fun m => by rw [m.h]; exact cell_blk (w := w3) HX3.out.2.1
          have hx1 : ∀ m : Go.Reg.In (fun x => x = w3.drew), m.w.cell? ⟨(ad.add (i * 2)).block, (ad.add (i * 2)).off + 1, none⟩ = some (.int .i64 y) := fun m => by rw [m.h]; exact HC3.out
          refine Go.Reg.lex_q 6 _ _ _ _ (by rfl) ?_; simp only [List.take_succ_cons, List.take_zero, List.drop_succ_cons, List.drop_zero]; (repeat (go_big_quiet_step (fail))); refine wpQuiet_nil ?_
          refine Go.Reg.step_x (by rfl) (fun K hK => ?_)
          go_wp2_with fail
          refine (refdrop (w0 := w) (w := w3.drew) y HX3.out.2.2.2.drew (Kd.R_drew HX3.out.2.2.1) HTW.out.len).mono ?_
          rintro e w4 ⟨v', rfl, hr, hb, hk⟩
          have HTN := Aside0.mk (HTW.out.next HA3.out HG3.out (by rw [dropL_len]; exact HTW.out.len) hr hb hk)
          obtain ⟨AN, cN, rfl⟩ := Kd.R_slice hr
          have hxm := HTW.out.mid HA3.out HG3.out hk
          have hxc : w4.cell? ⟨w2.heap.size, 0, none⟩ = some (.slice AX l.length cX) := cell_blk hxm
          have hxf : w4.frozen? ⟨w2.heap.size, 0, none⟩ = false := frozen_blk hxm
          clear hr hb hk hxm
          go_wp2_with fail
          refine hK.out _ _ ?_
          clear hK K
          refine Go.Reg.lex_qp 3 _ _ _ _ _ (by rfl) ?_; simp only [List.take_succ_cons, List.take_zero, List.drop_succ_cons, List.drop_zero]; (repeat (go_big_quiet_step (fail))); refine wpQuiet_nil ?_
          refine Go.Reg.step_x (by rfl) (fun K hK => ?_)
          go_wp2_with fail
          refine hK.out _ _ ?_
          clear hK K
          refine Go.Reg.lex_qp 1 _ _ _ _ _ (by rfl) ?_; simp only [List.take_succ_cons, List.take_zero, List.drop_succ_cons, List.drop_zero]; (repeat (go_big_quiet_step (fail))); refine wpQuiet_nil ?_
          refine Go.Reg.lex_nil ?_
          go_wp2_with fail
          refine (reflist HTN.out.row HTN.out.len).mono ?_
          rintro e w5 ⟨u, rfl, hru, b5⟩
          replace HTN := Aside0.mk (HTN.out.below (below_drew1 b5))
          obtain ⟨AU, cU, rfl, hcU, hCU⟩ := Kd.R_reads hru
          have HCU := Aside0.mk (Kd.C_drew hCU)
          have hbn : (!(hasL (dropL l y).1 y == hasL (dropL l y).1 y)) = false := by simp
          clear hru b5 hCU
          go_wp2_with fail
          dsimp only [List.append]
          refine Go.Reg.region (Below w5.heap.size w5.drew) [.s, .s, .s, .s, .s, .s, .s, .s, .s, .s, .w, .s, .s, .s, .s, .s, .s, .w, .s, .s, .s, .s, .s, .s, .s, .s, .s, .w, .s, .s, .s, .s, .s, .s, .w, .s, .s, .s, .s, .s, .s, .s, .s, .s, .w, .s, .s, .s, .s, .s, .s, .w, .s, .s, .s, .s, .w, .s, .s, .s, .s, .s, .s, .w, .s, .w, .s, .s] (by kernel_rfl) (by kernel_rfl) (Below.refl _ _) (fun ne => ?_)
          have hx5 : ∀ m : Go.Reg.In (Below w5.heap.size w5.drew), m.w.cell? ⟨w2.heap.size, 0, none⟩ = some (.slice AN (dropL l y).1.length cN) := fun m => cell_blk (HTN.out.below m.h).var
          have hd5 : ∀ m : Go.Reg.In (Below w5.heap.size w5.drew), m.w.cell? ⟨(ad.add (i * 2)).block, (ad.add (i * 2)).off + 1, none⟩ = some (.int .i64 y) := fun m => ((HTN.out.below m.h).bel.cell (World.block_lt_of_cell? w _ HC1.out)).trans HC1.out
          have HX5 := Lib.hid hx5
          have HD5 := Lib.hid hd5
          have HBW := Aside0.mk (Below.refl w5.heap.size w5.drew)
          refine Go.Reg.lex_q 10 _ _ _ _ (by rfl) ?_; simp only [List.take_succ_cons, List.take_zero, List.drop_succ_cons, List.drop_zero]; (repeat (go_big_quiet_step (rfl))); refine wpQuiet_nil ?_
          refine Go.Reg.step_w (fun K hK => ?_)
          go_wp2_with fail
          refine (has_any sb (dropL l y).1 y _ HTN.out.at_).mono ?_
          rintro e w' ⟨rfl, rfl⟩
          go_wp2_with fail
          refine hK.out _ _ HBW.out ?_
          clear hK K
          refine Go.Reg.lex_q 6 _ _ _ _ (by rfl) ?_; simp only [List.take_succ_cons, List.take_zero, List.drop_succ_cons, List.drop_zero]; (repeat (go_big_quiet_step (rfl))); refine wpQuiet_nil ?_
          refine Go.Reg.step_w (fun K hK => ?_)
          go_wp2_with fail
          refine (refhas y HTN.out.row).mono ?_
          rintro e w6 ⟨rfl, b⟩
          replace HBW := Aside0.mk (HBW.out.trans (b.mono HBW.out.size))
          replace HTN := Aside0.mk (HTN.out.below b)
          replace HCU := Aside0.mk (Kd.C_below HCU.out b)
          clear b
          go_wp2_with fail
          refine hK.out _ _ HBW.out ?_
          clear hK K
          refine Go.Reg.lex_q 9 _ _ _ _ (by rfl) ?_; simp only [List.take_succ_cons, List.take_zero, List.drop_succ_cons, List.drop_zero]; (repeat (go_big_quiet_step (rfl))); refine wpQuiet_nil ?_
          refine Go.Reg.step_w (fun K hK => ?_)
          go_wp2_with fail
          refine (next_any sb (dropL l y).1 y _ HTN.out.at_).mono ?_
          rintro e w' ⟨rfl, rfl⟩
          go_wp2_with fail
          refine hK.out _ _ HBW.out ?_
          clear hK K
          refine Go.Reg.lex_q 6 _ _ _ _ (by rfl) ?_; simp only [List.take_succ_cons, List.take_zero, List.drop_succ_cons, List.drop_zero]; (repeat (go_big_quiet_step (rfl))); refine wpQuiet_nil ?_
          refine Go.Reg.step_w (fun K hK => ?_)
          go_wp2_with fail
          refine (reffirst y true HTN.out.row HTN.out.len).mono ?_
          rintro e w7 ⟨rfl, b⟩
          replace HBW := Aside0.mk (HBW.out.trans (b.mono HBW.out.size))
          replace HTN := Aside0.mk (HTN.out.below b)
          replace HCU := Aside0.mk (Kd.C_below HCU.out b)
          clear b
          go_wp2_with fail
          refine hK.out _ _ HBW.out ?_
          clear hK K
          refine Go.Reg.lex_q 9 _ _ _ _ (by rfl) ?_; simp only [List.take_succ_cons, List.take_zero, List.drop_succ_cons, List.drop_zero]; (repeat (go_big_quiet_step (rfl))); refine wpQuiet_nil ?_
          refine Go.Reg.step_w (fun K hK => ?_)
          go_wp2_with fail
          refine (gap_any sb (dropL l y).1 y _ HTN.out.at_).mono ?_
          rintro e w' ⟨rfl, rfl⟩
          go_wp2_with fail
          refine hK.out _ _ HBW.out ?_
          clear hK K
          refine Go.Reg.lex_q 6 _ _ _ _ (by rfl) ?_; simp only [List.take_succ_cons, List.take_zero, List.drop_succ_cons, List.drop_zero]; (repeat (go_big_quiet_step (rfl))); refine wpQuiet_nil ?_
          refine Go.Reg.step_w (fun K hK => ?_)
          go_wp2_with fail
          refine (reffirst y false HTN.out.row HTN.out.len).mono ?_
          rintro e w8 ⟨rfl, b⟩
          replace HBW := Aside0.mk (HBW.out.trans (b.mono HBW.out.size))
          replace HTN := Aside0.mk (HTN.out.below b)
          replace HCU := Aside0.mk (Kd.C_below HCU.out b)
          clear b
          go_wp2_with fail
          refine hK.out _ _ HBW.out ?_
          clear hK K
          refine Go.Reg.lex_q 4 _ _ _ _ (by rfl) ?_; simp only [List.take_succ_cons, List.take_zero, List.drop_succ_cons, List.drop_zero]; (repeat (go_big_quiet_step (rfl))); refine wpQuiet_nil ?_
          refine Go.Reg.step_w (fun K hK => ?_)
          go_wp2_with fail
          refine (count_any sb (dropL l y).1 _ HTN.out.at_).mono ?_
          rintro e w' ⟨rfl, rfl⟩
          go_wp2_with fail
          refine hK.out _ _ HBW.out ?_
          clear hK K
          refine Go.Reg.lex_q 6 _ _ _ _ (by rfl) ?_; simp only [List.take_succ_cons, List.take_zero, List.drop_succ_cons, List.drop_zero]; (repeat (go_big_quiet_step (rfl))); refine wpQuiet_nil ?_
          refine Go.Reg.step_w (fun K hK => ?_)
          go_wp2_with fail
          refine (list_any sb (dropL l y).1 _ HTN.out.at_ HTN.out.len).mono ?_
          rintro e w9 ⟨u9, rfl, hr9, b⟩
          replace HBW := Aside0.mk (HBW.out.trans (b.mono HBW.out.size))
          replace HTN := Aside0.mk (HTN.out.below b)
          replace HCU := Aside0.mk (Kd.C_below HCU.out b)
          obtain ⟨A9, c9, rfl, hc9, hC9⟩ := Kd.R_reads hr9
          have HC9 := Aside0.mk hC9
          clear hr9 b hC9
          go_wp2_with fail
          refine hK.out _ _ HBW.out ?_
          clear hK K
          refine Go.Reg.lex_q 1 _ _ _ _ (by rfl) ?_; simp only [List.take_succ_cons, List.take_zero, List.drop_succ_cons, List.drop_zero]; (repeat (go_big_quiet_step (rfl))); refine wpQuiet_nil ?_
          refine Go.Reg.step_w (fun K hK => ?_)
          go_wp2_with fail
          refine (ints_eq _ _ _ _ _ _ (listL (dropL l y).1) _ rfl rfl (listL_len (dropL l y).1 HTN.out.len) HC9.out hc9 HCU.out hcU).mono ?_
          rintro e w10 ⟨rfl, ⟨nd, rfl⟩⟩
          replace HBW := Aside0.mk (pw_below_drewN HBW.out nd)
          replace HTN := Aside0.mk (HTN.out.below (pw_below_drewN (Below.refl _ _) nd))
          go_wp2_with fail
          refine hK.out _ _ HBW.out ?_
          clear hK K
          refine Go.Reg.lex_q 2 _ _ _ _ (by rfl) ?_; simp only [List.take_succ_cons, List.take_zero, List.drop_succ_cons, List.drop_zero]; (repeat (go_big_quiet_step (rfl))); refine wpQuiet_nil ?_
          refine Go.Reg.lex_nil ?_
          go_wp2_with fail
          go_roundg (gk - 1)
          case measure => have := HI.out; omega
          case rel => exact ⟨i + 1, (dropL l y).1, AN, cN, ⟨by have := HI.out; omega⟩, by go_num, HTN⟩
        · have HTN := HTW
          have hx4 : wr.cell? ⟨w2.heap.size, 0, none⟩ = some (.slice AX l.length cX) := cell_blk HTW.out.var
          go_wp2_with fail
          refine (reflist HTN.out.row HTN.out.len).mono ?_
          rintro e w5 ⟨u, rfl, hru, b5⟩
          replace HTN := Aside0.mk (HTN.out.below (below_drew1 b5))
          obtain ⟨AU, cU, rfl, hcU, hCU⟩ := Kd.R_reads hru
          have HCU := Aside0.mk (Kd.C_drew hCU)
          have hbn : (!(hasL l y == hasL l y)) = false := by simp
          clear hru b5 hCU
          go_wp2_with fail
          dsimp only [List.append]
          refine Go.Reg.region (Below w5.heap.size w5.drew) [.s, .s, .s, .s, .s, .s, .s, .s, .s, .s, .w, .s, .s, .s, .s, .s, .s, .w, .s, .s, .s, .s, .s, .s, .s, .s, .s, .w, .s, .s, .s, .s, .s, .s, .w, .s, .s, .s, .s, .s, .s, .s, .s, .s, .w, .s, .s, .s, .s, .s, .s, .w, .s, .s, .s, .s, .w, .s, .s, .s, .s, .s, .s, .w, .s, .w, .s, .s] (by kernel_rfl) (by kernel_rfl) (Below.refl _ _) (fun ne => ?_)
          have hx5 : ∀ m : Go.Reg.In (Below w5.heap.size w5.drew), m.w.cell? ⟨w2.heap.size, 0, none⟩ = some (.slice AX l.length cX) := fun m => cell_blk (HTN.out.below m.h).var
          have hd5 : ∀ m : Go.Reg.In (Below w5.heap.size w5.drew), m.w.cell? ⟨(ad.add (i * 2)).block, (ad.add (i * 2)).off + 1, none⟩ = some (.int .i64 y) := fun m => ((HTN.out.below m.h).bel.cell (World.block_lt_of_cell? w _ HC1.out)).trans HC1.out
          have HX5 := Lib.hid hx5
          have HD5 := Lib.hid hd5
          have HBW := Aside0.mk (Below.refl w5.heap.size w5.drew)
          refine Go.Reg.lex_q 10 _ _ _ _ (by rfl) ?_; simp only [List.take_succ_cons, List.take_zero, List.drop_succ_cons, List.drop_zero]; (repeat (go_big_quiet_step (rfl))); refine wpQuiet_nil ?_
          refine Go.Reg.step_w (fun K hK => ?_)
          go_wp2_with fail
          refine (has_any sb l y _ HTN.out.at_).mono ?_
          rintro e w' ⟨rfl, rfl⟩
          go_wp2_with fail
          refine hK.out _ _ HBW.out ?_
          clear hK K
          refine Go.Reg.lex_q 6 _ _ _ _ (by rfl) ?_; simp only [List.take_succ_cons, List.take_zero, List.drop_succ_cons, List.drop_zero]; (repeat (go_big_quiet_step (rfl))); refine wpQuiet_nil ?_
          refine Go.Reg.step_w (fun K hK => ?_)
          go_wp2_with fail
          refine (refhas y HTN.out.row).mono ?_
          rintro e w6 ⟨rfl, b⟩
          replace HBW := Aside0.mk (HBW.out.trans (b.mono HBW.out.size))
          replace HTN := Aside0.mk (HTN.out.below b)
          replace HCU := Aside0.mk (Kd.C_below HCU.out b)
          clear b
          go_wp2_with fail
          refine hK.out _ _ HBW.out ?_
          clear hK K
          refine Go.Reg.lex_q 9 _ _ _ _ (by rfl) ?_; simp only [List.take_succ_cons, List.take_zero, List.drop_succ_cons, List.drop_zero]; (repeat (go_big_quiet_step (rfl))); refine wpQuiet_nil ?_
          refine Go.Reg.step_w (fun K hK => ?_)
          go_wp2_with fail
          refine (next_any sb l y _ HTN.out.at_).mono ?_
          rintro e w' ⟨rfl, rfl⟩
          go_wp2_with fail
          refine hK.out _ _ HBW.out ?_
          clear hK K
          refine Go.Reg.lex_q 6 _ _ _ _ (by rfl) ?_; simp only [List.take_succ_cons, List.take_zero, List.drop_succ_cons, List.drop_zero]; (repeat (go_big_quiet_step (rfl))); refine wpQuiet_nil ?_
          refine Go.Reg.step_w (fun K hK => ?_)
          go_wp2_with fail
          refine (reffirst y true HTN.out.row HTN.out.len).mono ?_
          rintro e w7 ⟨rfl, b⟩
          replace HBW := Aside0.mk (HBW.out.trans (b.mono HBW.out.size))
          replace HTN := Aside0.mk (HTN.out.below b)
          replace HCU := Aside0.mk (Kd.C_below HCU.out b)
          clear b
          go_wp2_with fail
          refine hK.out _ _ HBW.out ?_
          clear hK K
          refine Go.Reg.lex_q 9 _ _ _ _ (by rfl) ?_; simp only [List.take_succ_cons, List.take_zero, List.drop_succ_cons, List.drop_zero]; (repeat (go_big_quiet_step (rfl))); refine wpQuiet_nil ?_
          refine Go.Reg.step_w (fun K hK => ?_)
          go_wp2_with fail
          refine (gap_any sb l y _ HTN.out.at_).mono ?_
          rintro e w' ⟨rfl, rfl⟩
          go_wp2_with fail
          refine hK.out _ _ HBW.out ?_
          clear hK K
          refine Go.Reg.lex_q 6 _ _ _ _ (by rfl) ?_; simp only [List.take_succ_cons, List.take_zero, List.drop_succ_cons, List.drop_zero]; (repeat (go_big_quiet_step (rfl))); refine wpQuiet_nil ?_
          refine Go.Reg.step_w (fun K hK => ?_)
          go_wp2_with fail
          refine (reffirst y false HTN.out.row HTN.out.len).mono ?_
          rintro e w8 ⟨rfl, b⟩
          replace HBW := Aside0.mk (HBW.out.trans (b.mono HBW.out.size))
          replace HTN := Aside0.mk (HTN.out.below b)
          replace HCU := Aside0.mk (Kd.C_below HCU.out b)
          clear b
          go_wp2_with fail
          refine hK.out _ _ HBW.out ?_
          clear hK K
          refine Go.Reg.lex_q 4 _ _ _ _ (by rfl) ?_; simp only [List.take_succ_cons, List.take_zero, List.drop_succ_cons, List.drop_zero]; (repeat (go_big_quiet_step (rfl))); refine wpQuiet_nil ?_
          refine Go.Reg.step_w (fun K hK => ?_)
          go_wp2_with fail
          refine (count_any sb l _ HTN.out.at_).mono ?_
          rintro e w' ⟨rfl, rfl⟩
          go_wp2_with fail
          refine hK.out _ _ HBW.out ?_
          clear hK K
          refine Go.Reg.lex_q 6 _ _ _ _ (by rfl) ?_; simp only [List.take_succ_cons, List.take_zero, List.drop_succ_cons, List.drop_zero]; (repeat (go_big_quiet_step (rfl))); refine wpQuiet_nil ?_
          refine Go.Reg.step_w (fun K hK => ?_)
          go_wp2_with fail
          refine (list_any sb l _ HTN.out.at_ HTN.out.len).mono ?_
          rintro e w9 ⟨u9, rfl, hr9, b⟩
          replace HBW := Aside0.mk (HBW.out.trans (b.mono HBW.out.size))
          replace HTN := Aside0.mk (HTN.out.below b)
          replace HCU := Aside0.mk (Kd.C_below HCU.out b)
          obtain ⟨A9, c9, rfl, hc9, hC9⟩ := Kd.R_reads hr9
          have HC9 := Aside0.mk hC9
          clear hr9 b hC9
          go_wp2_with fail
          refine hK.out _ _ HBW.out ?_
          clear hK K
          refine Go.Reg.lex_q 1 _ _ _ _ (by rfl) ?_; simp only [List.take_succ_cons, List.take_zero, List.drop_succ_cons, List.drop_zero]; (repeat (go_big_quiet_step (rfl))); refine wpQuiet_nil ?_
          refine Go.Reg.step_w (fun K hK => ?_)
          go_wp2_with fail
          refine (ints_eq _ _ _ _ _ _ (listL l) _ rfl rfl (listL_len l HTN.out.len) HC9.out hc9 HCU.out hcU).mono ?_
          rintro e w10 ⟨rfl, ⟨nd, rfl⟩⟩
          replace HBW := Aside0.mk (pw_below_drewN HBW.out nd)
          replace HTN := Aside0.mk (HTN.out.below (pw_below_drewN (Below.refl _ _) nd))
          go_wp2_with fail
          refine hK.out _ _ HBW.out ?_
          clear hK K
          refine Go.Reg.lex_q 2 _ _ _ _ (by rfl) ?_; simp only [List.take_succ_cons, List.take_zero, List.drop_succ_cons, List.drop_zero]; (repeat (go_big_quiet_step (rfl))); refine wpQuiet_nil ?_
          refine Go.Reg.lex_nil ?_
          go_wp2_with fail
          go_roundg (gk - 1)
          case measure => have := HI.out; omega
          case rel => exact ⟨i + 1, l, AX, cX, ⟨by have := HI.out; omega⟩, by go_num, HTN⟩
    · go_wp2_with fail
      refine (awake_any _).mono ?_
      rintro e w' ⟨rfl, hb⟩
      go_wp2_with fail
      go_ret
      exact ⟨rfl, HTW.out.bel.trans (hb.mono HTW.out.bel.size)⟩
end Bits
end Go.Proofs.Ytbcifbogmjfpoaa
