/- The pool in memory: PoolClones. -/
import Derived.Test.YthmdpmpnlphfdaaPu
import Derived.Test.YthmdpmpnlphfdaaReg2
import Derived.Below
import Derived.Deep.MidRow
import Derived.Deep.WholeRow
import Derived.Great.BuildSlice
import Derived.Lib.Hide
import Derived.OwnWalk
import Derived.WalkKit
import Derived.KernelRfl
import Derived.RowKit3
import Derived.Deep.LoopGhost
import Derived.Deep.QuietTactic
import Derived.BigQuiet
import Derived.WideLaws
import Derived.Outline
import Derived.Deep.DeepCutAuto
import Derived.Deep.CutBlock
import Derived.WalkSpells
import Derived.RegionTactic
import Derived.BigRegion
import Derived.WalkLawsBesides
namespace Go.Proofs.Ythmdpmpnlphfdaa
set_option linter.unusedVariables false
set_option linter.unusedSimpArgs false
open Go.RowKit Go.Proofs.YthmdpmpnlphfdaaW.PrintWords Go.Proofs.YthmdpmpnlphfdaaW.PrintLast Go.Proofs.YthmdpmpnlphfdaaW.PrintMore
namespace Bits
open Go.Bits Go.Pool PPoolDoes Go.Proofs.Ythmdpmpnlphfdaa.Op
/-- A pair beside which one block is changed that is none of its. -/
theorem Two.aside {w0 w w' : World} {pb sb xb tb : Nat} {fr : Int} {v : Value} {l : List Bool} (h : Two w0 w pb sb xb fr v l) (ho : Only tb w w') (n1 : pb ≠ tb) (n2 : sb ≠ tb) (n3 : xb ≠ tb) (n4 : some tb ≠ v.ownBlock) (n5 : w0.heap.size ≤ tb) : Two w0 w' pb sb xb fr v l :=
  ⟨h.pool.aside ho n1 n2, row_only h.row ho n4, ho.below h.bel n5 h.bel.size, ho.blk h.var n3, h.sbase, h.pbase, h.xbase⟩
theorem Two.own {w0 w : World} {pb sb xb : Nat} {fr : Int} {v : Value} {l : List Bool} (h : Two w0 w pb sb xb fr v l) : some xb ≠ v.ownBlock ∧ some sb ≠ v.ownBlock := ⟨Kd.R_ne h.row h.var (by decide), h.pool.row_ne h.row⟩
set_option maxHeartbeats 8000000 in
set_option maxRecDepth 100000 in
theorem clones_walk (A0 : Option Addr) (c0 : Nat) (ys : List S38) (A1 : Option Addr) (c1 : Nat) (zs : List S38) (w : World) (hC0 : Kd.C k38 w A0 ys.length ys) (hc0 : ys.length ≤ c0) (hg0 : ∀ y ∈ ys, inI64 y.f1 ∧ ∀ z ∈ y.f2, inI64 z) (hC1 : Kd.C k38 w A1 zs.length zs) (hc1 : zs.length ≤ c1) (hg1 : ∀ y ∈ zs, inI64 y.f1 ∧ ∀ z ∈ y.f2, inI64 z) :
    Calls Try.prog 5 #[.slice A0 ys.length c0, .slice A1 zs.length c1] w fun e w' => e = .returned (.bool true) ∧ Below w.heap.size w w' := by
  have HYS := Aside0.mk hC0
  have HZS := Aside0.mk hC1
  have HGY := Aside0.mk hg0
  have HGZ := Aside0.mk hg1
  obtain ⟨ry, hry, hfy⟩ := few_plain ys
  obtain ⟨rz, hrz, hfz⟩ := few_plain zs
  have HFY := Aside0.mk hfy
  have HFZ := Aside0.mk hfz
  have HRY := Aside0.mk hry
  have HRZ := Aside0.mk hrz
  clear hC0 hC1 hg0 hg1 hfy hfz hry hrz
  go_enter Try.func5, Try.ntmps5
  go_wp2_with fail
  refine (pool_of_yes 2 18 w (by omega)).mono ?_
  rintro e w1 ⟨pb, sb, rfl, p1, b1, g1, g2⟩
  have HP := Aside0.mk (show PAt w1 pb sb 2 (List.replicate 18 false) from p1)
  have HB := Aside0.mk b1
  have HGE := Aside0.mk (show w.heap.size ≤ pb ∧ w.heap.size ≤ sb from ⟨g1, g2⟩)
  clear p1 b1 g1 g2
  go_wp2_with fail
  refine (chantryref11_Of.calls 2 20 2 (List.replicate 18 false) 0 _ (pref_of_yes 2 18 (by omega))).mono ?_
  rintro e w2 ⟨v0, rfl, hr, b2⟩
  obtain ⟨AX0, cX0, rfl⟩ := Kd.R_slice hr
  have HTW := Aside0.mk (show Two w (w2.alloc (.cells #[.int .i64 2, .slice AX0 (List.replicate 18 false).length cX0] 29)) pb sb w2.heap.size 2 (.slice AX0 (List.replicate 18 false).length cX0) (List.replicate 18 false) from by
    have hal := (Below.refl w2.heap.size w2).alloc (Nat.le_refl _) (.cells #[.int .i64 2, .slice AX0 (List.replicate 18 false).length cX0] 29)
    have hb12 := HB.out.trans (b2.mono HB.out.size)
    exact ⟨(HP.out.below b2).below hal, Kd.R_below (fresh_row hr HB.out.size) hal, hb12.trans (hal.mono hb12.size), heap_alloc_new w2 _, HGE.out.2, HGE.out.1, hb12.size⟩)
  clear hr b2
  rw [List.length_replicate] at HTW
  simp only [List.length_replicate]
  go_wp2_with fail
  refine (chantrylaw11_few.calls 100 A0 c0 ys ry _ (Kd.C_below HYS.out HTW.out.bel) hc0 HRY.out).mono ?_
  rintro e w3 ⟨rfl, ⟨m3, rfl⟩⟩
  obtain ⟨w3, hw3⟩ : ∃ w3, w3 = (w2.alloc (.cells #[.int .i64 2, .slice AX0 18 cX0] 29)).drewN m3 := ⟨_, rfl⟩
  rw [← hw3]
  replace HTW := Aside0.mk (show Two w w3 pb sb w2.heap.size 2 (.slice AX0 18 cX0) (List.replicate 18 false) by rw [hw3]; exact HTW.out.below (pw_below_drewN (Below.refl _ _) m3))
  clear hw3
  cases ry with
  | false =>
    go_wp2_with fail
    refine (awake_any _).mono ?_
    rintro e w4 ⟨rfl, b⟩
    go_wp2_with fail
    go_ret
    exact ⟨rfl, HTW.out.bel.trans (b.mono HTW.out.bel.size)⟩
  | true =>
    have HX30 := Aside0.mk (HFY.out rfl)
    have hleny : ys.length ≤ 30 := HX30.out.1
    clear HFY
    go_wp2_with fail
    refine (chantrylaw11_few.calls 100 A1 c1 zs rz _ (Kd.C_below HZS.out HTW.out.bel) hc1 HRZ.out).mono ?_
    rintro e w4 ⟨rfl, ⟨m4, rfl⟩⟩
    obtain ⟨w4, hw4⟩ : ∃ w4, w4 = w3.drewN m4 := ⟨_, rfl⟩
    rw [← hw4]
    replace HTW := Aside0.mk (show Two w w4 pb sb w2.heap.size 2 (.slice AX0 18 cX0) (List.replicate 18 false) by rw [hw4]; exact HTW.out.below (pw_below_drewN (Below.refl _ _) m4))
    clear hw4
    cases rz with
    | false =>
      go_wp2_with fail
      refine (awake_any _).mono ?_
      rintro e w4 ⟨rfl, b⟩
      go_wp2_with fail
      go_ret
      exact ⟨rfl, HTW.out.bel.trans (b.mono HTW.out.bel.size)⟩
    | true =>
      have HZ30 := Aside0.mk (HFZ.out rfl)
      have hlenz : zs.length ≤ 30 := HZ30.out.1
      clear HFZ
      go_wp2_with fail
      go_loopg [9] ys.length (fun g v9 wr => ∃ (i : Nat) (l : List Bool) (AX : Option Addr) (cX : Nat), Aside0 (i + g = ys.length) ∧ v9 = .int .i64 i ∧ Aside0 (Two w wr pb sb w2.heap.size 2 (.slice AX l.length cX) l))
      case atStart => exact ⟨0, List.replicate 18 false, AX0, cX0, ⟨by omega⟩, rfl, by simpa only [List.length_replicate] using HTW⟩
      case round =>
        clear HTW
        obtain ⟨i, l, AX, cX, HI, rfl, HTW⟩ := hrel
        by_cases hi : i < ys.length
        · obtain ⟨ad, A2, c2, rfl, hc0, hc1, hc2, hl2, hC2⟩ := at_T38 HYS.out i (by omega) (by omega)
          have HGI := Aside0.mk (HGY.out _ (show rd_T38 ys i ∈ ys by unfold rd_T38; rw [Int.toNat_natCast, List.getD_eq_getElem?_getD, List.getElem?_eq_getElem hi]; exact List.getElem_mem hi))
          have hx30 := HX30.out.2 i hi
          obtain ⟨K, hK⟩ : ∃ y, y = (rd_T38 ys i).f0 := ⟨_, rfl⟩
          obtain ⟨N, hN⟩ : ∃ y, y = (rd_T38 ys i).f1 := ⟨_, rfl⟩
          obtain ⟨xs, hxs⟩ : ∃ y, y = (rd_T38 ys i).f2 := ⟨_, rfl⟩
          rw [← hK, Int.toNat_natCast] at hc0
          rw [← hN, Int.toNat_natCast] at hc1
          rw [← hxs, Int.toNat_natCast] at hc2
          rw [← hxs] at hl2 hC2 hx30
          rw [← hN, ← hxs] at HGI
          clear hK hN hxs
          have HC2 := Aside0.mk hC2
          have HD0 := Aside0.mk hc0
          have HD1 := Aside0.mk hc1
          have HD2 := Aside0.mk hc2
          have hxw := HTW.out.xlt
          clear hc0 hc1 hc2 hC2
          go_wp2_with fail
          refine Go.Reg.region (Only sb wr) [.s, .s, .s, .s, .s, .s, .w, .p, .p, .p, .x] (by kernel_rfl) (by kernel_rfl) (.of_below (below_drew1 (Below.refl _ _))) (fun ne => ?_)
          have hxne := HTW.out.xne
          have hx0 : ∀ m : Go.Reg.In (Only sb wr), m.w.cell? ⟨w2.heap.size, 0, none⟩ = some (.int .i64 2) := fun m => cell_blk (m.h.blk HTW.out.var hxne.1)
          have hx1 : ∀ m : Go.Reg.In (Only sb wr), m.w.cell? ⟨w2.heap.size, 1, none⟩ = some (.slice AX l.length cX) := fun m => cell_blk (m.h.blk HTW.out.var hxne.1)
          have HBM := Aside0.mk (show ∀ m : Go.Reg.In (Only sb wr), Below w.heap.size w m.w from fun m => m.h.below HTW.out.bel HTW.out.sbase HTW.out.bel.size)
          have hd0 : ∀ m : Go.Reg.In (Only sb wr), m.w.cell? (ad.add (i * 3)) = some (.int .i64 K) := fun m => ((HBM.out m).cell (World.block_lt_of_cell? w _ HD0.out)).trans HD0.out
          have hd1 : ∀ m : Go.Reg.In (Only sb wr), m.w.cell? ⟨(ad.add (i * 3)).block, (ad.add (i * 3)).off + 1, none⟩ = some (.int .i64 N) := fun m => ((HBM.out m).cell (World.block_lt_of_cell? w _ HD1.out)).trans HD1.out
          have hd2 : ∀ m : Go.Reg.In (Only sb wr), m.w.cell? ⟨(ad.add (i * 3)).block, (ad.add (i * 3)).off + 2, none⟩ = some (.slice A2 xs.length c2) := fun m => ((HBM.out m).cell (World.block_lt_of_cell? w _ HD2.out)).trans HD2.out
          refine Go.Reg.lex_q 6 _ _ _ _ (by rfl) ?_; simp only [List.take_succ_cons, List.take_zero, List.drop_succ_cons, List.drop_zero]; (repeat (go_big_quiet_step (rfl))); refine wpQuiet_nil ?_
          have HTD := Aside0.mk (HTW.out.below (below_drew1 (Below.refl _ _)))
          have HOD := Aside0.mk (Only.of_below (b := sb) (below_drew1 (Below.refl wr.heap.size wr)))
          refine Go.Reg.step_w (fun KK hKK => ?_)
          go_wp2_with fail
          refine (do_any (w0 := w) K N A2 c2 xs HTD.out.pool HTD.out.row HTD.out.bel HTD.out.sbase (fun W hW => Kd.C_below HC2.out hW) hl2 (fun z hz => (HGI.out.2 z hz).2) hx30 HGI.out.1.2).mono ?_
          rintro e w5 ⟨v4, rfl, hp4, hr4, ho4⟩
          obtain ⟨A4, c4, rfl⟩ := Kd.R_slice hr4
          have HO5 := Aside0.mk (HOD.out.trans ho4)
          have HTN := Aside0.mk (HTW.out.next hp4 hr4 HO5.out)
          have hx5 := HO5.out.blk HTW.out.var hxne.1
          have x0 : w5.cell? ⟨w2.heap.size, 0, none⟩ = some (.int .i64 2) := cell_blk hx5
          have x1 : w5.cell? ⟨w2.heap.size, 1, none⟩ = some (.slice AX l.length cX) := cell_blk hx5
          have x2 : w5.frozen? ⟨w2.heap.size, 0, none⟩ = false := frozen_blk hx5
          have x3 : w5.frozen? ⟨w2.heap.size, 1, none⟩ = false := frozen_blk hx5
          clear hp4 hr4 ho4 hx5
          go_wp2_with fail
          refine hKK.out _ _ HO5.out ?_
          clear hKK KK
          refine Go.Reg.lex_qp 3 _ _ _ _ _ (by rfl) ?_; simp only [List.take_succ_cons, List.take_zero, List.drop_succ_cons, List.drop_zero]; (repeat (go_big_quiet_step (rfl))); refine wpQuiet_nil ?_
          refine Go.Reg.step_x (by rfl) (fun KK hKK => ?_)
          go_wp2_with fail
          refine hKK.out _ _ ?_
          clear hKK KK
          refine Go.Reg.lex_nil ?_
          go_wp2_with fail
          go_roundg (gk - 1)
          case measure => have := HI.out; omega
          case rel => exact ⟨i + 1, doL 2 l K N xs, A4, c4, ⟨by have := HI.out; omega⟩, by go_num, HTN⟩
        · go_wp2_with fail
          refine Go.Reg.region_fork (Below wr.heap.size wr) [.p, .w, .s, .w, .p, .x] [0, 2] 1 3 [3, 4, 5] [1, 4, 5] (by kernel_rfl) (by kernel_rfl) (below_drew1 (Below.refl _ _)) (fun ne => ?_)
          have hxlt := HTW.out.xlt
          have hx0 : ∀ m : Go.Reg.In (Below wr.heap.size wr), m.w.cell? ⟨w2.heap.size, 0, none⟩ = some (.int .i64 2) := fun m => by rw [m.h.cell hxlt]; exact cell_blk HTW.out.var
          have hx1 : ∀ m : Go.Reg.In (Below wr.heap.size wr), m.w.cell? ⟨w2.heap.size, 1, none⟩ = some (.slice AX l.length cX) := fun m => by rw [m.h.cell hxlt]; exact cell_blk HTW.out.var
          dsimp only [Go.Reg.pick, List.filterMap, List.map, List.getD_eq_getElem?_getD]
          simp only [List.getElem?_toArray, List.getElem?_cons_zero, List.getElem?_cons_succ, List.filterMap_cons, List.filterMap_nil, Option.getD_some]
          refine Go.Reg.lex_qp 1 _ _ _ _ _ (by rfl) ?_; simp only [List.take_succ_cons, List.take_zero, List.drop_succ_cons, List.drop_zero]; (repeat (go_big_quiet_step (rfl))); refine wpQuiet_nil ?_
          refine Go.Reg.lex_q 1 _ _ _ _ (by rfl) ?_; simp only [List.take_succ_cons, List.take_zero, List.drop_succ_cons, List.drop_zero]; (repeat (go_big_quiet_step (rfl))); refine wpQuiet_nil ?_
          refine Go.Reg.lex_nil ?_
          have HTD := Aside0.mk (HTW.out.below (below_drew1 (Below.refl _ _)))
          have HOD := Aside0.mk (below_drew1 (Below.refl wr.heap.size wr))
          refine ⟨?_, ?_, fun o ho => ?_⟩
          · refine Go.Reg.step_w (fun KK hKK => ?_)
            go_wp2_with fail
            refine (pool_clone_any _ HTD.out.pool).mono ?_
            rintro e w5 ⟨qb, tb, rfl, hq, b5, g1, g2⟩
            have HO5 := Aside0.mk (HOD.out.trans b5)
            have HQ5 := Aside0.mk hq
            have HG5 := Aside0.mk (show wr.heap.size ≤ qb ∧ wr.heap.size ≤ tb from ⟨g1, g2⟩)
            have HT5 := Aside0.mk (HTD.out.below b5)
            clear hq b5 g1 g2
            go_wp2_with fail
            refine hKK.out _ _ HO5.out ?_
            clear hKK KK
            refine Go.Reg.step_w (fun KK hKK => ?_)
            go_wp2_with fail
            have hal := (Below.refl w5.heap.size w5).alloc (Nat.le_refl _) (.cells #[.int .i64 0, .slice none 0 0] 29)
            have hnb := heap_alloc_new w5 (.cells #[.int .i64 0, .slice none 0 0] 29)
            obtain ⟨w6, hw6⟩ : ∃ w6, w6 = w5.alloc (.cells #[.int .i64 0, .slice none 0 0] 29) := ⟨_, rfl⟩
            rw [← hw6] at hal hnb
            rw [← hw6]
            have HO6 := Aside0.mk (HO5.out.trans (hal.mono HO5.out.size))
            have HQ6 := Aside0.mk (HQ5.out.below hal)
            have HT6 := Aside0.mk (HT5.out.below hal)
            have HNB := Aside0.mk hnb
            have hyb : wr.heap.size ≤ w5.heap.size := HO5.out.size
            have HNQ := Aside0.mk (show w5.heap.size ≠ qb ∧ w5.heap.size ≠ tb by have := HQ5.out.lt; have := HQ5.out.set.lt; omega)
            obtain ⟨yb, hybe⟩ : ∃ yb, yb = w5.heap.size := ⟨_, rfl⟩
            rw [← hybe] at HNB hyb HNQ
            rw [← hybe]
            clear hw6 hal hnb hybe
            refine hKK.out _ _ HO6.out ?_
            clear hKK KK
            refine Go.Reg.lex_qp 1 _ _ _ _ _ (by rfl) ?_; simp only [List.take_succ_cons, List.take_zero, List.drop_succ_cons, List.drop_zero]; (repeat (go_big_quiet_step (rfl))); refine wpQuiet_nil ?_
            have e0 : w6.cell? ⟨yb, 0, none⟩ = some (.int .i64 0) := cell_blk HNB.out
            have e1 : w6.cell? ⟨yb, 1, none⟩ = some (.slice none 0 0) := cell_blk HNB.out
            have e2 : w6.frozen? ⟨yb, 0, none⟩ = false := frozen_blk HNB.out
            have e3 : w6.frozen? ⟨yb, 1, none⟩ = false := frozen_blk HNB.out
            refine Go.Reg.step_x (by rfl) (fun KK hKK => ?_)
            go_wp2_with fail
            obtain ⟨w7, hw7⟩ : ∃ w7, w7 = (w6.setCell ⟨yb, 0, none⟩ (.int .i64 2)).setCell ⟨yb, 1, none⟩ (.slice AX l.length cX) := ⟨_, rfl⟩
            rw [← hw7]
            obtain ⟨s1, s2⟩ := two_set HNB.out (.int .i64 2) (.slice AX l.length cX)
            rw [← hw7] at s1 s2
            have htl := HTW.out.xlt
            have hpl := HTW.out.pool.lt
            have hsl := HTW.out.pool.set.lt
            have hrl := Kd.R_lt HTW.out.row
            have hwb := HTW.out.bel.size
            have HXN := Aside0.mk (show pb ≠ yb ∧ sb ≠ yb ∧ w2.heap.size ≠ yb by omega)
            have HX7 := Aside0.mk (HT6.out.aside s2 HXN.out.1 HXN.out.2.1 HXN.out.2.2 (fun e => by have := hrl yb e.symm; omega) (by omega))
            have HQN := Aside0.mk HNQ.out
            have HY7 := Aside0.mk (show Two w w7 qb tb yb 2 (.slice AX l.length cX) l from ⟨HQ6.out.step (s2.block qb HQ6.out.lt (Ne.symm HNQ.out.1)) (s2.block tb HQ6.out.set.lt (Ne.symm HNQ.out.2)), HX7.out.row, HX7.out.bel, s1, by have := HG5.out.2; omega, by have := HG5.out.1; omega, by omega⟩)
            have HNT := Aside0.mk (show pb ≠ tb ∧ sb ≠ tb ∧ w2.heap.size ≠ tb by have := HG5.out; omega)
            clear hw7 s1 s2 e0 e1 e2 e3 hx0 hx1 htl hpl hsl hrl HTW HT6 HTD HNB HQ6 HT5
            refine hKK.out _ _ ?_
            clear hKK KK
            refine Go.Reg.lex_nil ?_
            go_wp2_with fail
            go_loopg [12, 13, 14] zs.length (fun g v12 v13 v14 wr => ∃ (i : Nat) (k : List Bool) (AX' : Option Addr) (cX' : Nat), Aside0 (i + g = zs.length) ∧ v12 = .int .i64 i ∧ Aside0 (Two w wr qb tb yb 2 (.slice AX' k.length cX') k) ∧ Aside0 (Two w wr pb sb w2.heap.size 2 (.slice AX l.length cX) l))
            case atStart => exact ⟨0, l, AX, cX, ⟨by omega⟩, rfl, HY7, HX7⟩
            case round =>
              clear HY7 HX7
              obtain ⟨i, k, AX', cX', HI', rfl, HTY, HTX⟩ := hrel
              by_cases hi : i < zs.length
              · obtain ⟨ad, A2, c2, rfl, hc0, hc1, hc2, hl2, hC2⟩ := at_T38 HZS.out i (by omega) (by omega)
                have HGI := Aside0.mk (HGZ.out _ (show rd_T38 zs i ∈ zs by unfold rd_T38; rw [Int.toNat_natCast, List.getD_eq_getElem?_getD, List.getElem?_eq_getElem hi]; exact List.getElem_mem hi))
                have hx30 := HZ30.out.2 i hi
                obtain ⟨K, hK⟩ : ∃ y, y = (rd_T38 zs i).f0 := ⟨_, rfl⟩
                obtain ⟨N, hN⟩ : ∃ y, y = (rd_T38 zs i).f1 := ⟨_, rfl⟩
                obtain ⟨xs, hxs⟩ : ∃ y, y = (rd_T38 zs i).f2 := ⟨_, rfl⟩
                rw [← hK, Int.toNat_natCast] at hc0
                rw [← hN, Int.toNat_natCast] at hc1
                rw [← hxs, Int.toNat_natCast] at hc2
                rw [← hxs] at hl2 hC2 hx30
                rw [← hN, ← hxs] at HGI
                clear hK hN hxs
                have HC2 := Aside0.mk hC2
                have HD0 := Aside0.mk hc0
                have HD1 := Aside0.mk hc1
                have HD2 := Aside0.mk hc2
                have hxw := HTY.out.xlt
                clear hc0 hc1 hc2 hC2
                go_wp2_with fail
                refine Go.Reg.region_fork (Only tb wr) [.s, .s, .s, .s, .s, .s, .w, .p, .p, .p, .w, .x, .p] [0, 1, 2, 3, 4, 5] 6 10 [7, 8, 9, 10, 11, 12] [6, 7, 8, 9, 11, 12] (by kernel_rfl) (by kernel_rfl) (.of_below (below_drew1 (Below.refl _ _))) (fun ne => ?_)
                have hxne := HTY.out.xne
                have hx0 : ∀ m : Go.Reg.In (Only tb wr), m.w.cell? ⟨yb, 0, none⟩ = some (.int .i64 2) := fun m => cell_blk (m.h.blk HTY.out.var hxne.1)
                have hx1 : ∀ m : Go.Reg.In (Only tb wr), m.w.cell? ⟨yb, 1, none⟩ = some (.slice AX' k.length cX') := fun m => cell_blk (m.h.blk HTY.out.var hxne.1)
                have HBM := Aside0.mk (show ∀ m : Go.Reg.In (Only tb wr), Below w.heap.size w m.w from fun m => m.h.below HTY.out.bel HTY.out.sbase HTY.out.bel.size)
                have hd0 : ∀ m : Go.Reg.In (Only tb wr), m.w.cell? (ad.add (i * 3)) = some (.int .i64 K) := fun m => ((HBM.out m).cell (World.block_lt_of_cell? w _ HD0.out)).trans HD0.out
                have hd1 : ∀ m : Go.Reg.In (Only tb wr), m.w.cell? ⟨(ad.add (i * 3)).block, (ad.add (i * 3)).off + 1, none⟩ = some (.int .i64 N) := fun m => ((HBM.out m).cell (World.block_lt_of_cell? w _ HD1.out)).trans HD1.out
                have hd2 : ∀ m : Go.Reg.In (Only tb wr), m.w.cell? ⟨(ad.add (i * 3)).block, (ad.add (i * 3)).off + 2, none⟩ = some (.slice A2 xs.length c2) := fun m => ((HBM.out m).cell (World.block_lt_of_cell? w _ HD2.out)).trans HD2.out
                dsimp only [Go.Reg.pick, List.filterMap, List.map, List.getD_eq_getElem?_getD]
                simp only [List.getElem?_toArray, List.getElem?_cons_zero, List.getElem?_cons_succ, List.filterMap_cons, List.filterMap_nil, Option.getD_some]
                refine Go.Reg.lex_q 6 _ _ _ _ (by rfl) ?_; simp only [List.take_succ_cons, List.take_zero, List.drop_succ_cons, List.drop_zero]; (repeat (go_big_quiet_step (rfl))); refine wpQuiet_nil ?_
                refine Go.Reg.lex_nil ?_
                have HTD := Aside0.mk (HTY.out.below (below_drew1 (Below.refl _ _)))
                have HXD := Aside0.mk (HTX.out.below (below_drew1 (Below.refl _ _)))
                have HOD := Aside0.mk (Only.of_below (b := tb) (below_drew1 (Below.refl wr.heap.size wr)))
                have HNE := Aside0.mk (show tb < wr.heap.size ∧ qb < wr.heap.size from ⟨HTY.out.pool.set.lt, HTY.out.pool.lt⟩)
                refine ⟨?_, ?_, fun o ho => ?_⟩
                · refine Go.Reg.step_w (fun KK hKK => ?_)
                  go_wp2_with fail
                  refine (do_any (w0 := w) K N A2 c2 xs HTD.out.pool HTD.out.row HTD.out.bel HTD.out.sbase (fun W hW => Kd.C_below HC2.out hW) hl2 (fun z hz => (HGI.out.2 z hz).2) hx30 HGI.out.1.2).mono ?_
                  rintro e w4 ⟨v4, rfl, hp4, hr4, ho4⟩
                  obtain ⟨A4, c4, rfl⟩ := Kd.R_slice hr4
                  have HO4 := Aside0.mk (HOD.out.trans ho4)
                  have HP4 := Aside0.mk hp4
                  have HR4 := Aside0.mk hr4
                  clear hp4 hr4 ho4
                  go_wp2_with fail
                  refine hKK.out _ _ HO4.out ?_
                  clear hKK KK
                  refine Go.Reg.lex_qp 3 _ _ _ _ _ (by rfl) ?_; simp only [List.take_succ_cons, List.take_zero, List.drop_succ_cons, List.drop_zero]; (repeat (go_big_quiet_step (rfl))); refine wpQuiet_nil ?_
                  refine Go.Reg.step_w (fun KK hKK => ?_)
                  go_wp2_with fail
                  have hal := (Below.refl w4.heap.size w4).alloc (Nat.le_refl _) (.cells #[.int .i64 0, .slice none 0 0] 29)
                  have hnb := heap_alloc_new w4 (.cells #[.int .i64 0, .slice none 0 0] 29)
                  obtain ⟨w5, hw5⟩ : ∃ w5, w5 = w4.alloc (.cells #[.int .i64 0, .slice none 0 0] 29) := ⟨_, rfl⟩
                  rw [← hw5] at hal hnb
                  rw [← hw5]
                  have HO5 := Aside0.mk (HO4.out.trans (.of_below hal))
                  have HP5 := Aside0.mk (HP4.out.below hal)
                  have HR5 := Aside0.mk (Kd.R_below HR4.out hal)
                  have HNB := Aside0.mk hnb
                  have hub := HO4.out.size
                  obtain ⟨ub, hube⟩ : ∃ ub, ub = w4.heap.size := ⟨_, rfl⟩
                  rw [← hube] at HNB hub
                  rw [← hube]
                  clear hw5 hal hnb hube
                  refine hKK.out _ _ HO5.out ?_
                  clear hKK KK
                  have e0 : w5.cell? ⟨ub, 0, none⟩ = some (.int .i64 0) := cell_blk HNB.out
                  have e1 : w5.cell? ⟨ub, 1, none⟩ = some (.slice none 0 0) := cell_blk HNB.out
                  have e2 : w5.frozen? ⟨ub, 0, none⟩ = false := frozen_blk HNB.out
                  have e3 : w5.frozen? ⟨ub, 1, none⟩ = false := frozen_blk HNB.out
                  refine Go.Reg.step_x (by rfl) (fun KK hKK => ?_)
                  go_wp2_with fail
                  obtain ⟨w6, hw6⟩ : ∃ w6, w6 = (w5.setCell ⟨ub, 0, none⟩ (.int .i64 2)).setCell ⟨ub, 1, none⟩ (.slice A4 (doL 2 k K N xs).length c4) := ⟨_, rfl⟩
                  rw [← hw6]
                  obtain ⟨s1, s2⟩ := two_set HNB.out (.int .i64 2) (.slice A4 (doL 2 k K N xs).length c4)
                  rw [← hw6] at s1 s2
                  have htl := HTY.out.xlt
                  have hne6 := HNE.out
                  have HO6 := Aside0.mk (HO5.out.forget s2 hub)
                  have HP6 := Aside0.mk (HP5.out.step (s2.block qb HP5.out.lt (by omega)) (s2.block tb HP5.out.set.lt (by omega)))
                  have HR6 := Aside0.mk (row_only HR5.out s2 (Kd.R_ne HR5.out HNB.out (by decide)))
                  have HX6 := Aside0.mk (s2.blk (HO5.out.blk HTY.out.var HTY.out.xne.1) (by omega))
                  have HTN := Aside0.mk (HTY.out.next HP6.out HR6.out HO6.out)
                  have HXA := Aside0.mk (HTX.out.aside HO6.out HNT.out.1 HNT.out.2.1 HNT.out.2.2 (HTY.out.pool.row_ne HTX.out.row) HTY.out.sbase)
                  obtain ⟨_, t2⟩ := two_set HX6.out (.int .i64 2) (.slice A4 (doL 2 k K N xs).length c4)
                  have HXB := Aside0.mk (HXA.out.aside t2 HXN.out.1 HXN.out.2.1 HXN.out.2.2 (Kd.R_ne HXA.out.row HX6.out (by decide)) HTY.out.xbase)
                  have f0 : w6.cell? ⟨ub, 0, none⟩ = some (.int .i64 2) := cell_blk s1
                  have f1 : w6.cell? ⟨ub, 1, none⟩ = some (.slice A4 (doL 2 k K N xs).length c4) := cell_blk s1
                  have x0 : w6.cell? ⟨yb, 0, none⟩ = some (.int .i64 2) := cell_blk HX6.out
                  have x1 : w6.cell? ⟨yb, 1, none⟩ = some (.slice AX' k.length cX') := cell_blk HX6.out
                  have x2 : w6.frozen? ⟨yb, 0, none⟩ = false := frozen_blk HX6.out
                  have x3 : w6.frozen? ⟨yb, 1, none⟩ = false := frozen_blk HX6.out
                  clear hw6 s1 s2 t2 e0 e1 e2 e3 hx0 hx1 hd0 hd1 hd2
                  refine hKK.out _ _ ?_
                  clear hKK KK
                  refine Go.Reg.lex_qp 1 _ _ _ _ _ (by rfl) ?_; simp only [List.take_succ_cons, List.take_zero, List.drop_succ_cons, List.drop_zero]; (repeat (go_big_quiet_step (rfl))); refine wpQuiet_nil ?_
                  refine Go.Reg.lex_nil ?_
                  go_wp2_with fail
                  go_roundg (gk - 1)
                  case measure => have := HI'.out; omega
                  case rel => exact ⟨i + 1, doL 2 k K N xs, A4, c4, ⟨by have := HI'.out; omega⟩, by go_num, HTN, HXB⟩
                · refine Go.Reg.step_w (fun KK hKK => ?_)
                  go_wp2_with fail
                  obtain ⟨w4, hw4⟩ : ∃ w4, w4 = (wr.alloc (.cells #[.int .i64 0, .slice none 0 0] 29)).drew := ⟨_, rfl⟩
                  have hal : Below wr.drew.heap.size wr.drew w4 := by rw [hw4]; exact (Below.refl wr.drew.heap.size wr.drew).alloc (Nat.le_refl _) (.cells #[.int .i64 0, .slice none 0 0] 29)
                  have hnb : w4.heap[wr.heap.size]? = some (.cells #[.int .i64 0, .slice none 0 0] 29 (0, 0)) := by rw [hw4]; exact heap_alloc_new wr.drew (.cells #[.int .i64 0, .slice none 0 0] 29)
                  rw [← hw4]
                  have HO4 := Aside0.mk (HOD.out.trans (.of_below hal))
                  have HT4 := Aside0.mk (HTD.out.below hal)
                  have HNB4 := Aside0.mk hnb
                  obtain ⟨ub, hube⟩ : ∃ ub, ub = wr.heap.size := ⟨_, rfl⟩
                  have hub : wr.heap.size ≤ ub := by omega
                  rw [← hube] at HNB4
                  rw [← hube]
                  clear hw4 hal hnb hube
                  refine hKK.out _ _ HO4.out ?_
                  clear hKK KK
                  refine Go.Reg.step_w (fun KK hKK => ?_)
                  go_wp2_with fail
                  refine (do_any (w0 := w) K N A2 c2 xs HT4.out.pool HT4.out.row HT4.out.bel HT4.out.sbase (fun W hW => Kd.C_below HC2.out hW) hl2 (fun z hz => (HGI.out.2 z hz).2) hx30 HGI.out.1.2).mono ?_
                  rintro e w5 ⟨v4, rfl, hp4, hr4, ho4⟩
                  obtain ⟨A4, c4, rfl⟩ := Kd.R_slice hr4
                  have HO5 := Aside0.mk (HO4.out.trans ho4)
                  have HP5 := Aside0.mk hp4
                  have HR5 := Aside0.mk hr4
                  have HNB := Aside0.mk (ho4.blk HNB4.out (by have := HNE.out; omega))
                  clear hp4 hr4 ho4
                  go_wp2_with fail
                  refine hKK.out _ _ HO5.out ?_
                  clear hKK KK
                  refine Go.Reg.lex_qp 3 _ _ _ _ _ (by rfl) ?_; simp only [List.take_succ_cons, List.take_zero, List.drop_succ_cons, List.drop_zero]; (repeat (go_big_quiet_step (rfl))); refine wpQuiet_nil ?_
                  have e0 : w5.cell? ⟨ub, 0, none⟩ = some (.int .i64 0) := cell_blk HNB.out
                  have e1 : w5.cell? ⟨ub, 1, none⟩ = some (.slice none 0 0) := cell_blk HNB.out
                  have e2 : w5.frozen? ⟨ub, 0, none⟩ = false := frozen_blk HNB.out
                  have e3 : w5.frozen? ⟨ub, 1, none⟩ = false := frozen_blk HNB.out
                  refine Go.Reg.step_x (by rfl) (fun KK hKK => ?_)
                  go_wp2_with fail
                  obtain ⟨w6, hw6⟩ : ∃ w6, w6 = (w5.setCell ⟨ub, 0, none⟩ (.int .i64 2)).setCell ⟨ub, 1, none⟩ (.slice A4 (doL 2 k K N xs).length c4) := ⟨_, rfl⟩
                  rw [← hw6]
                  obtain ⟨s1, s2⟩ := two_set HNB.out (.int .i64 2) (.slice A4 (doL 2 k K N xs).length c4)
                  rw [← hw6] at s1 s2
                  have htl := HTY.out.xlt
                  have hne6 := HNE.out
                  have HO6 := Aside0.mk (HO5.out.forget s2 hub)
                  have HP6 := Aside0.mk (HP5.out.step (s2.block qb HP5.out.lt (by omega)) (s2.block tb HP5.out.set.lt (by omega)))
                  have HR6 := Aside0.mk (row_only HR5.out s2 (Kd.R_ne HR5.out HNB.out (by decide)))
                  have HX6 := Aside0.mk (s2.blk (HO5.out.blk HTY.out.var HTY.out.xne.1) (by omega))
                  have HTN := Aside0.mk (HTY.out.next HP6.out HR6.out HO6.out)
                  have HXA := Aside0.mk (HTX.out.aside HO6.out HNT.out.1 HNT.out.2.1 HNT.out.2.2 (HTY.out.pool.row_ne HTX.out.row) HTY.out.sbase)
                  obtain ⟨_, t2⟩ := two_set HX6.out (.int .i64 2) (.slice A4 (doL 2 k K N xs).length c4)
                  have HXB := Aside0.mk (HXA.out.aside t2 HXN.out.1 HXN.out.2.1 HXN.out.2.2 (Kd.R_ne HXA.out.row HX6.out (by decide)) HTY.out.xbase)
                  have f0 : w6.cell? ⟨ub, 0, none⟩ = some (.int .i64 2) := cell_blk s1
                  have f1 : w6.cell? ⟨ub, 1, none⟩ = some (.slice A4 (doL 2 k K N xs).length c4) := cell_blk s1
                  have x0 : w6.cell? ⟨yb, 0, none⟩ = some (.int .i64 2) := cell_blk HX6.out
                  have x1 : w6.cell? ⟨yb, 1, none⟩ = some (.slice AX' k.length cX') := cell_blk HX6.out
                  have x2 : w6.frozen? ⟨yb, 0, none⟩ = false := frozen_blk HX6.out
                  have x3 : w6.frozen? ⟨yb, 1, none⟩ = false := frozen_blk HX6.out
                  clear hw6 s1 s2 t2 e0 e1 e2 e3 hx0 hx1 hd0 hd1 hd2
                  refine hKK.out _ _ ?_
                  clear hKK KK
                  refine Go.Reg.lex_qp 1 _ _ _ _ _ (by rfl) ?_; simp only [List.take_succ_cons, List.take_zero, List.drop_succ_cons, List.drop_zero]; (repeat (go_big_quiet_step (rfl))); refine wpQuiet_nil ?_
                  refine Go.Reg.lex_nil ?_
                  go_wp2_with fail
                  go_roundg (gk - 1)
                  case measure => have := HI'.out; omega
                  case rel => exact ⟨i + 1, doL 2 k K N xs, A4, c4, ⟨by have := HI'.out; omega⟩, by go_num, HTN, HXB⟩
                · simp at ho
                  rcases ho with rfl | rfl <;> rfl
              · have hx0 : wr.cell? ⟨w2.heap.size, 0, none⟩ = some (.int .i64 2) := cell_blk HTX.out.var
                have hx1 : wr.cell? ⟨w2.heap.size, 1, none⟩ = some (.slice AX l.length cX) := cell_blk HTX.out.var
                go_wp2_with fail
                refine (take_nil 1 _).mono ?_
                rintro e w8 ⟨rfl, rfl⟩
                go_wp2_with fail
                refine (alike_any HTX.out.pair).mono ?_
                rintro e w8 ⟨rfl, b8⟩
                have HTZ := Aside0.mk (HTY.out.below b8)
                have hy0 : w8.cell? ⟨yb, 0, none⟩ = some (.int .i64 2) := cell_blk HTZ.out.var
                have hy1 : w8.cell? ⟨yb, 1, none⟩ = some (.slice AX' k.length cX') := cell_blk HTZ.out.var
                clear b8 hx0 hx1
                go_wp2_with fail
                refine (alike_any HTZ.out.pair).mono ?_
                rintro e w9 ⟨rfl, b9⟩
                have HB9 := Aside0.mk (HTZ.out.bel.trans (b9.mono HTZ.out.bel.size))
                clear b9 hy0 hy1
                go_wp2_with fail
                refine (give_nil _ _).mono ?_
                rintro e w10 ⟨rfl, rfl⟩
                go_wp2_with fail
                refine (mark_nil _ _).mono ?_
                rintro e w10 ⟨rfl, rfl⟩
                go_wp2_with fail
                refine (free_nil _).mono ?_
                rintro e w10 ⟨rfl, rfl⟩
                go_wp2_with fail
                refine (taken_nil _).mono ?_
                rintro e w10 ⟨rfl, rfl⟩
                go_wp2_with fail
                refine (pool_has_nil 1 _).mono ?_
                rintro e w10 ⟨rfl, b10⟩
                replace HB9 := Aside0.mk (HB9.out.trans (b10.mono HB9.out.size))
                clear b10
                go_wp2_with fail
                refine (pool_clone_nil _).mono ?_
                rintro e w11 ⟨rfl, rfl⟩
                go_wp2_with fail
                refine (awake_any _).mono ?_
                rintro e w12 ⟨rfl, b12⟩
                go_wp2_with fail
                go_ret
                exact ⟨rfl, HB9.out.trans (b12.mono HB9.out.size)⟩
          · refine Go.Reg.step_w (fun KK hKK => ?_)
            go_wp2_with fail
            obtain ⟨w5, hw5⟩ : ∃ w5, w5 = (wr.alloc (.cells #[.int .i64 0, .slice none 0 0] 29)).drew := ⟨_, rfl⟩
            have hal : Below wr.drew.heap.size wr.drew w5 := by rw [hw5]; exact (Below.refl wr.drew.heap.size wr.drew).alloc (Nat.le_refl _) (.cells #[.int .i64 0, .slice none 0 0] 29)
            have hnb : w5.heap[wr.heap.size]? = some (.cells #[.int .i64 0, .slice none 0 0] 29 (0, 0)) := by rw [hw5]; exact heap_alloc_new wr.drew (.cells #[.int .i64 0, .slice none 0 0] 29)
            rw [← hw5]
            have HO5 := Aside0.mk (HOD.out.trans hal)
            have HT5 := Aside0.mk (HTD.out.below hal)
            have HNB5 := Aside0.mk hnb
            have hyl : wr.heap.size < w5.heap.size := (Array.getElem?_eq_some_iff.1 hnb).1
            obtain ⟨yb, hybe⟩ : ∃ yb, yb = wr.heap.size := ⟨_, rfl⟩
            have hyb : wr.heap.size ≤ yb := by omega
            have hyl2 : yb < w5.heap.size := by omega
            rw [← hybe] at HNB5
            rw [← hybe]
            clear hw5 hal hnb hybe hyl
            refine hKK.out _ _ HO5.out ?_
            clear hKK KK
            refine Go.Reg.step_w (fun KK hKK => ?_)
            go_wp2_with fail
            refine (pool_clone_any _ HT5.out.pool).mono ?_
            rintro e w6 ⟨qb, tb, rfl, hq, b5, g1, g2⟩
            have HO6 := Aside0.mk (HO5.out.trans (b5.mono HO5.out.size))
            have HQ6 := Aside0.mk hq
            have HG5 := Aside0.mk (show wr.heap.size ≤ qb ∧ wr.heap.size ≤ tb by omega)
            have HT6 := Aside0.mk (HT5.out.below b5)
            have HNB := Aside0.mk ((b5.block _ hyl2).trans HNB5.out)
            have HNQ := Aside0.mk (show yb ≠ qb ∧ yb ≠ tb by omega)
            clear hq b5 g1 g2
            go_wp2_with fail
            refine hKK.out _ _ HO6.out ?_
            clear hKK KK
            refine Go.Reg.lex_qp 1 _ _ _ _ _ (by rfl) ?_; simp only [List.take_succ_cons, List.take_zero, List.drop_succ_cons, List.drop_zero]; (repeat (go_big_quiet_step (rfl))); refine wpQuiet_nil ?_
            have e0 : w6.cell? ⟨yb, 0, none⟩ = some (.int .i64 0) := cell_blk HNB.out
            have e1 : w6.cell? ⟨yb, 1, none⟩ = some (.slice none 0 0) := cell_blk HNB.out
            have e2 : w6.frozen? ⟨yb, 0, none⟩ = false := frozen_blk HNB.out
            have e3 : w6.frozen? ⟨yb, 1, none⟩ = false := frozen_blk HNB.out
            refine Go.Reg.step_x (by rfl) (fun KK hKK => ?_)
            go_wp2_with fail
            obtain ⟨w7, hw7⟩ : ∃ w7, w7 = (w6.setCell ⟨yb, 0, none⟩ (.int .i64 2)).setCell ⟨yb, 1, none⟩ (.slice AX l.length cX) := ⟨_, rfl⟩
            rw [← hw7]
            obtain ⟨s1, s2⟩ := two_set HNB.out (.int .i64 2) (.slice AX l.length cX)
            rw [← hw7] at s1 s2
            have htl := HTW.out.xlt
            have hpl := HTW.out.pool.lt
            have hsl := HTW.out.pool.set.lt
            have hrl := Kd.R_lt HTW.out.row
            have hwb := HTW.out.bel.size
            have HXN := Aside0.mk (show pb ≠ yb ∧ sb ≠ yb ∧ w2.heap.size ≠ yb by omega)
            have HX7 := Aside0.mk (HT6.out.aside s2 HXN.out.1 HXN.out.2.1 HXN.out.2.2 (fun e => by have := hrl yb e.symm; omega) (by omega))
            have HQN := Aside0.mk HNQ.out
            have HY7 := Aside0.mk (show Two w w7 qb tb yb 2 (.slice AX l.length cX) l from ⟨HQ6.out.step (s2.block qb HQ6.out.lt (Ne.symm HNQ.out.1)) (s2.block tb HQ6.out.set.lt (Ne.symm HNQ.out.2)), HX7.out.row, HX7.out.bel, s1, by have := HG5.out.2; omega, by have := HG5.out.1; omega, by omega⟩)
            have HNT := Aside0.mk (show pb ≠ tb ∧ sb ≠ tb ∧ w2.heap.size ≠ tb by have := HG5.out; omega)
            clear hw7 s1 s2 e0 e1 e2 e3 hx0 hx1 htl hpl hsl hrl HTW HT6 HTD HNB HQ6 HT5
            refine hKK.out _ _ ?_
            clear hKK KK
            refine Go.Reg.lex_nil ?_
            go_wp2_with fail
            go_loopg [12, 13, 14] zs.length (fun g v12 v13 v14 wr => ∃ (i : Nat) (k : List Bool) (AX' : Option Addr) (cX' : Nat), Aside0 (i + g = zs.length) ∧ v12 = .int .i64 i ∧ Aside0 (Two w wr qb tb yb 2 (.slice AX' k.length cX') k) ∧ Aside0 (Two w wr pb sb w2.heap.size 2 (.slice AX l.length cX) l))
            case atStart => exact ⟨0, l, AX, cX, ⟨by omega⟩, rfl, HY7, HX7⟩
            case round =>
              clear HY7 HX7
              obtain ⟨i, k, AX', cX', HI', rfl, HTY, HTX⟩ := hrel
              by_cases hi : i < zs.length
              · obtain ⟨ad, A2, c2, rfl, hc0, hc1, hc2, hl2, hC2⟩ := at_T38 HZS.out i (by omega) (by omega)
                have HGI := Aside0.mk (HGZ.out _ (show rd_T38 zs i ∈ zs by unfold rd_T38; rw [Int.toNat_natCast, List.getD_eq_getElem?_getD, List.getElem?_eq_getElem hi]; exact List.getElem_mem hi))
                have hx30 := HZ30.out.2 i hi
                obtain ⟨K, hK⟩ : ∃ y, y = (rd_T38 zs i).f0 := ⟨_, rfl⟩
                obtain ⟨N, hN⟩ : ∃ y, y = (rd_T38 zs i).f1 := ⟨_, rfl⟩
                obtain ⟨xs, hxs⟩ : ∃ y, y = (rd_T38 zs i).f2 := ⟨_, rfl⟩
                rw [← hK, Int.toNat_natCast] at hc0
                rw [← hN, Int.toNat_natCast] at hc1
                rw [← hxs, Int.toNat_natCast] at hc2
                rw [← hxs] at hl2 hC2 hx30
                rw [← hN, ← hxs] at HGI
                clear hK hN hxs
                have HC2 := Aside0.mk hC2
                have HD0 := Aside0.mk hc0
                have HD1 := Aside0.mk hc1
                have HD2 := Aside0.mk hc2
                have hxw := HTY.out.xlt
                clear hc0 hc1 hc2 hC2
                go_wp2_with fail
                refine Go.Reg.region_fork (Only tb wr) [.s, .s, .s, .s, .s, .s, .w, .p, .p, .p, .w, .x, .p] [0, 1, 2, 3, 4, 5] 6 10 [7, 8, 9, 10, 11, 12] [6, 7, 8, 9, 11, 12] (by kernel_rfl) (by kernel_rfl) (.of_below (below_drew1 (Below.refl _ _))) (fun ne => ?_)
                have hxne := HTY.out.xne
                have hx0 : ∀ m : Go.Reg.In (Only tb wr), m.w.cell? ⟨yb, 0, none⟩ = some (.int .i64 2) := fun m => cell_blk (m.h.blk HTY.out.var hxne.1)
                have hx1 : ∀ m : Go.Reg.In (Only tb wr), m.w.cell? ⟨yb, 1, none⟩ = some (.slice AX' k.length cX') := fun m => cell_blk (m.h.blk HTY.out.var hxne.1)
                have HBM := Aside0.mk (show ∀ m : Go.Reg.In (Only tb wr), Below w.heap.size w m.w from fun m => m.h.below HTY.out.bel HTY.out.sbase HTY.out.bel.size)
                have hd0 : ∀ m : Go.Reg.In (Only tb wr), m.w.cell? (ad.add (i * 3)) = some (.int .i64 K) := fun m => ((HBM.out m).cell (World.block_lt_of_cell? w _ HD0.out)).trans HD0.out
                have hd1 : ∀ m : Go.Reg.In (Only tb wr), m.w.cell? ⟨(ad.add (i * 3)).block, (ad.add (i * 3)).off + 1, none⟩ = some (.int .i64 N) := fun m => ((HBM.out m).cell (World.block_lt_of_cell? w _ HD1.out)).trans HD1.out
                have hd2 : ∀ m : Go.Reg.In (Only tb wr), m.w.cell? ⟨(ad.add (i * 3)).block, (ad.add (i * 3)).off + 2, none⟩ = some (.slice A2 xs.length c2) := fun m => ((HBM.out m).cell (World.block_lt_of_cell? w _ HD2.out)).trans HD2.out
                dsimp only [Go.Reg.pick, List.filterMap, List.map, List.getD_eq_getElem?_getD]
                simp only [List.getElem?_toArray, List.getElem?_cons_zero, List.getElem?_cons_succ, List.filterMap_cons, List.filterMap_nil, Option.getD_some]
                refine Go.Reg.lex_q 6 _ _ _ _ (by rfl) ?_; simp only [List.take_succ_cons, List.take_zero, List.drop_succ_cons, List.drop_zero]; (repeat (go_big_quiet_step (rfl))); refine wpQuiet_nil ?_
                refine Go.Reg.lex_nil ?_
                have HTD := Aside0.mk (HTY.out.below (below_drew1 (Below.refl _ _)))
                have HXD := Aside0.mk (HTX.out.below (below_drew1 (Below.refl _ _)))
                have HOD := Aside0.mk (Only.of_below (b := tb) (below_drew1 (Below.refl wr.heap.size wr)))
                have HNE := Aside0.mk (show tb < wr.heap.size ∧ qb < wr.heap.size from ⟨HTY.out.pool.set.lt, HTY.out.pool.lt⟩)
                refine ⟨?_, ?_, fun o ho => ?_⟩
                · refine Go.Reg.step_w (fun KK hKK => ?_)
                  go_wp2_with fail
                  refine (do_any (w0 := w) K N A2 c2 xs HTD.out.pool HTD.out.row HTD.out.bel HTD.out.sbase (fun W hW => Kd.C_below HC2.out hW) hl2 (fun z hz => (HGI.out.2 z hz).2) hx30 HGI.out.1.2).mono ?_
                  rintro e w4 ⟨v4, rfl, hp4, hr4, ho4⟩
                  obtain ⟨A4, c4, rfl⟩ := Kd.R_slice hr4
                  have HO4 := Aside0.mk (HOD.out.trans ho4)
                  have HP4 := Aside0.mk hp4
                  have HR4 := Aside0.mk hr4
                  clear hp4 hr4 ho4
                  go_wp2_with fail
                  refine hKK.out _ _ HO4.out ?_
                  clear hKK KK
                  refine Go.Reg.lex_qp 3 _ _ _ _ _ (by rfl) ?_; simp only [List.take_succ_cons, List.take_zero, List.drop_succ_cons, List.drop_zero]; (repeat (go_big_quiet_step (rfl))); refine wpQuiet_nil ?_
                  refine Go.Reg.step_w (fun KK hKK => ?_)
                  go_wp2_with fail
                  have hal := (Below.refl w4.heap.size w4).alloc (Nat.le_refl _) (.cells #[.int .i64 0, .slice none 0 0] 29)
                  have hnb := heap_alloc_new w4 (.cells #[.int .i64 0, .slice none 0 0] 29)
                  obtain ⟨w5, hw5⟩ : ∃ w5, w5 = w4.alloc (.cells #[.int .i64 0, .slice none 0 0] 29) := ⟨_, rfl⟩
                  rw [← hw5] at hal hnb
                  rw [← hw5]
                  have HO5 := Aside0.mk (HO4.out.trans (.of_below hal))
                  have HP5 := Aside0.mk (HP4.out.below hal)
                  have HR5 := Aside0.mk (Kd.R_below HR4.out hal)
                  have HNB := Aside0.mk hnb
                  have hub := HO4.out.size
                  obtain ⟨ub, hube⟩ : ∃ ub, ub = w4.heap.size := ⟨_, rfl⟩
                  rw [← hube] at HNB hub
                  rw [← hube]
                  clear hw5 hal hnb hube
                  refine hKK.out _ _ HO5.out ?_
                  clear hKK KK
                  have e0 : w5.cell? ⟨ub, 0, none⟩ = some (.int .i64 0) := cell_blk HNB.out
                  have e1 : w5.cell? ⟨ub, 1, none⟩ = some (.slice none 0 0) := cell_blk HNB.out
                  have e2 : w5.frozen? ⟨ub, 0, none⟩ = false := frozen_blk HNB.out
                  have e3 : w5.frozen? ⟨ub, 1, none⟩ = false := frozen_blk HNB.out
                  refine Go.Reg.step_x (by rfl) (fun KK hKK => ?_)
                  go_wp2_with fail
                  obtain ⟨w6, hw6⟩ : ∃ w6, w6 = (w5.setCell ⟨ub, 0, none⟩ (.int .i64 2)).setCell ⟨ub, 1, none⟩ (.slice A4 (doL 2 k K N xs).length c4) := ⟨_, rfl⟩
                  rw [← hw6]
                  obtain ⟨s1, s2⟩ := two_set HNB.out (.int .i64 2) (.slice A4 (doL 2 k K N xs).length c4)
                  rw [← hw6] at s1 s2
                  have htl := HTY.out.xlt
                  have hne6 := HNE.out
                  have HO6 := Aside0.mk (HO5.out.forget s2 hub)
                  have HP6 := Aside0.mk (HP5.out.step (s2.block qb HP5.out.lt (by omega)) (s2.block tb HP5.out.set.lt (by omega)))
                  have HR6 := Aside0.mk (row_only HR5.out s2 (Kd.R_ne HR5.out HNB.out (by decide)))
                  have HX6 := Aside0.mk (s2.blk (HO5.out.blk HTY.out.var HTY.out.xne.1) (by omega))
                  have HTN := Aside0.mk (HTY.out.next HP6.out HR6.out HO6.out)
                  have HXA := Aside0.mk (HTX.out.aside HO6.out HNT.out.1 HNT.out.2.1 HNT.out.2.2 (HTY.out.pool.row_ne HTX.out.row) HTY.out.sbase)
                  obtain ⟨_, t2⟩ := two_set HX6.out (.int .i64 2) (.slice A4 (doL 2 k K N xs).length c4)
                  have HXB := Aside0.mk (HXA.out.aside t2 HXN.out.1 HXN.out.2.1 HXN.out.2.2 (Kd.R_ne HXA.out.row HX6.out (by decide)) HTY.out.xbase)
                  have f0 : w6.cell? ⟨ub, 0, none⟩ = some (.int .i64 2) := cell_blk s1
                  have f1 : w6.cell? ⟨ub, 1, none⟩ = some (.slice A4 (doL 2 k K N xs).length c4) := cell_blk s1
                  have x0 : w6.cell? ⟨yb, 0, none⟩ = some (.int .i64 2) := cell_blk HX6.out
                  have x1 : w6.cell? ⟨yb, 1, none⟩ = some (.slice AX' k.length cX') := cell_blk HX6.out
                  have x2 : w6.frozen? ⟨yb, 0, none⟩ = false := frozen_blk HX6.out
                  have x3 : w6.frozen? ⟨yb, 1, none⟩ = false := frozen_blk HX6.out
                  clear hw6 s1 s2 t2 e0 e1 e2 e3 hx0 hx1 hd0 hd1 hd2
                  refine hKK.out _ _ ?_
                  clear hKK KK
                  refine Go.Reg.lex_qp 1 _ _ _ _ _ (by rfl) ?_; simp only [List.take_succ_cons, List.take_zero, List.drop_succ_cons, List.drop_zero]; (repeat (go_big_quiet_step (rfl))); refine wpQuiet_nil ?_
                  refine Go.Reg.lex_nil ?_
                  go_wp2_with fail
                  go_roundg (gk - 1)
                  case measure => have := HI'.out; omega
                  case rel => exact ⟨i + 1, doL 2 k K N xs, A4, c4, ⟨by have := HI'.out; omega⟩, by go_num, HTN, HXB⟩
                · refine Go.Reg.step_w (fun KK hKK => ?_)
                  go_wp2_with fail
                  obtain ⟨w4, hw4⟩ : ∃ w4, w4 = (wr.alloc (.cells #[.int .i64 0, .slice none 0 0] 29)).drew := ⟨_, rfl⟩
                  have hal : Below wr.drew.heap.size wr.drew w4 := by rw [hw4]; exact (Below.refl wr.drew.heap.size wr.drew).alloc (Nat.le_refl _) (.cells #[.int .i64 0, .slice none 0 0] 29)
                  have hnb : w4.heap[wr.heap.size]? = some (.cells #[.int .i64 0, .slice none 0 0] 29 (0, 0)) := by rw [hw4]; exact heap_alloc_new wr.drew (.cells #[.int .i64 0, .slice none 0 0] 29)
                  rw [← hw4]
                  have HO4 := Aside0.mk (HOD.out.trans (.of_below hal))
                  have HT4 := Aside0.mk (HTD.out.below hal)
                  have HNB4 := Aside0.mk hnb
                  obtain ⟨ub, hube⟩ : ∃ ub, ub = wr.heap.size := ⟨_, rfl⟩
                  have hub : wr.heap.size ≤ ub := by omega
                  rw [← hube] at HNB4
                  rw [← hube]
                  clear hw4 hal hnb hube
                  refine hKK.out _ _ HO4.out ?_
                  clear hKK KK
                  refine Go.Reg.step_w (fun KK hKK => ?_)
                  go_wp2_with fail
                  refine (do_any (w0 := w) K N A2 c2 xs HT4.out.pool HT4.out.row HT4.out.bel HT4.out.sbase (fun W hW => Kd.C_below HC2.out hW) hl2 (fun z hz => (HGI.out.2 z hz).2) hx30 HGI.out.1.2).mono ?_
                  rintro e w5 ⟨v4, rfl, hp4, hr4, ho4⟩
                  obtain ⟨A4, c4, rfl⟩ := Kd.R_slice hr4
                  have HO5 := Aside0.mk (HO4.out.trans ho4)
                  have HP5 := Aside0.mk hp4
                  have HR5 := Aside0.mk hr4
                  have HNB := Aside0.mk (ho4.blk HNB4.out (by have := HNE.out; omega))
                  clear hp4 hr4 ho4
                  go_wp2_with fail
                  refine hKK.out _ _ HO5.out ?_
                  clear hKK KK
                  refine Go.Reg.lex_qp 3 _ _ _ _ _ (by rfl) ?_; simp only [List.take_succ_cons, List.take_zero, List.drop_succ_cons, List.drop_zero]; (repeat (go_big_quiet_step (rfl))); refine wpQuiet_nil ?_
                  have e0 : w5.cell? ⟨ub, 0, none⟩ = some (.int .i64 0) := cell_blk HNB.out
                  have e1 : w5.cell? ⟨ub, 1, none⟩ = some (.slice none 0 0) := cell_blk HNB.out
                  have e2 : w5.frozen? ⟨ub, 0, none⟩ = false := frozen_blk HNB.out
                  have e3 : w5.frozen? ⟨ub, 1, none⟩ = false := frozen_blk HNB.out
                  refine Go.Reg.step_x (by rfl) (fun KK hKK => ?_)
                  go_wp2_with fail
                  obtain ⟨w6, hw6⟩ : ∃ w6, w6 = (w5.setCell ⟨ub, 0, none⟩ (.int .i64 2)).setCell ⟨ub, 1, none⟩ (.slice A4 (doL 2 k K N xs).length c4) := ⟨_, rfl⟩
                  rw [← hw6]
                  obtain ⟨s1, s2⟩ := two_set HNB.out (.int .i64 2) (.slice A4 (doL 2 k K N xs).length c4)
                  rw [← hw6] at s1 s2
                  have htl := HTY.out.xlt
                  have hne6 := HNE.out
                  have HO6 := Aside0.mk (HO5.out.forget s2 hub)
                  have HP6 := Aside0.mk (HP5.out.step (s2.block qb HP5.out.lt (by omega)) (s2.block tb HP5.out.set.lt (by omega)))
                  have HR6 := Aside0.mk (row_only HR5.out s2 (Kd.R_ne HR5.out HNB.out (by decide)))
                  have HX6 := Aside0.mk (s2.blk (HO5.out.blk HTY.out.var HTY.out.xne.1) (by omega))
                  have HTN := Aside0.mk (HTY.out.next HP6.out HR6.out HO6.out)
                  have HXA := Aside0.mk (HTX.out.aside HO6.out HNT.out.1 HNT.out.2.1 HNT.out.2.2 (HTY.out.pool.row_ne HTX.out.row) HTY.out.sbase)
                  obtain ⟨_, t2⟩ := two_set HX6.out (.int .i64 2) (.slice A4 (doL 2 k K N xs).length c4)
                  have HXB := Aside0.mk (HXA.out.aside t2 HXN.out.1 HXN.out.2.1 HXN.out.2.2 (Kd.R_ne HXA.out.row HX6.out (by decide)) HTY.out.xbase)
                  have f0 : w6.cell? ⟨ub, 0, none⟩ = some (.int .i64 2) := cell_blk s1
                  have f1 : w6.cell? ⟨ub, 1, none⟩ = some (.slice A4 (doL 2 k K N xs).length c4) := cell_blk s1
                  have x0 : w6.cell? ⟨yb, 0, none⟩ = some (.int .i64 2) := cell_blk HX6.out
                  have x1 : w6.cell? ⟨yb, 1, none⟩ = some (.slice AX' k.length cX') := cell_blk HX6.out
                  have x2 : w6.frozen? ⟨yb, 0, none⟩ = false := frozen_blk HX6.out
                  have x3 : w6.frozen? ⟨yb, 1, none⟩ = false := frozen_blk HX6.out
                  clear hw6 s1 s2 t2 e0 e1 e2 e3 hx0 hx1 hd0 hd1 hd2
                  refine hKK.out _ _ ?_
                  clear hKK KK
                  refine Go.Reg.lex_qp 1 _ _ _ _ _ (by rfl) ?_; simp only [List.take_succ_cons, List.take_zero, List.drop_succ_cons, List.drop_zero]; (repeat (go_big_quiet_step (rfl))); refine wpQuiet_nil ?_
                  refine Go.Reg.lex_nil ?_
                  go_wp2_with fail
                  go_roundg (gk - 1)
                  case measure => have := HI'.out; omega
                  case rel => exact ⟨i + 1, doL 2 k K N xs, A4, c4, ⟨by have := HI'.out; omega⟩, by go_num, HTN, HXB⟩
                · simp at ho
                  rcases ho with rfl | rfl <;> rfl
              · have hx0 : wr.cell? ⟨w2.heap.size, 0, none⟩ = some (.int .i64 2) := cell_blk HTX.out.var
                have hx1 : wr.cell? ⟨w2.heap.size, 1, none⟩ = some (.slice AX l.length cX) := cell_blk HTX.out.var
                go_wp2_with fail
                refine (take_nil 1 _).mono ?_
                rintro e w8 ⟨rfl, rfl⟩
                go_wp2_with fail
                refine (alike_any HTX.out.pair).mono ?_
                rintro e w8 ⟨rfl, b8⟩
                have HTZ := Aside0.mk (HTY.out.below b8)
                have hy0 : w8.cell? ⟨yb, 0, none⟩ = some (.int .i64 2) := cell_blk HTZ.out.var
                have hy1 : w8.cell? ⟨yb, 1, none⟩ = some (.slice AX' k.length cX') := cell_blk HTZ.out.var
                clear b8 hx0 hx1
                go_wp2_with fail
                refine (alike_any HTZ.out.pair).mono ?_
                rintro e w9 ⟨rfl, b9⟩
                have HB9 := Aside0.mk (HTZ.out.bel.trans (b9.mono HTZ.out.bel.size))
                clear b9 hy0 hy1
                go_wp2_with fail
                refine (give_nil _ _).mono ?_
                rintro e w10 ⟨rfl, rfl⟩
                go_wp2_with fail
                refine (mark_nil _ _).mono ?_
                rintro e w10 ⟨rfl, rfl⟩
                go_wp2_with fail
                refine (free_nil _).mono ?_
                rintro e w10 ⟨rfl, rfl⟩
                go_wp2_with fail
                refine (taken_nil _).mono ?_
                rintro e w10 ⟨rfl, rfl⟩
                go_wp2_with fail
                refine (pool_has_nil 1 _).mono ?_
                rintro e w10 ⟨rfl, b10⟩
                replace HB9 := Aside0.mk (HB9.out.trans (b10.mono HB9.out.size))
                clear b10
                go_wp2_with fail
                refine (pool_clone_nil _).mono ?_
                rintro e w11 ⟨rfl, rfl⟩
                go_wp2_with fail
                refine (awake_any _).mono ?_
                rintro e w12 ⟨rfl, b12⟩
                go_wp2_with fail
                go_ret
                exact ⟨rfl, HB9.out.trans (b12.mono HB9.out.size)⟩
          · simp at ho
            rcases ho with rfl | rfl <;> rfl
end Bits
end Go.Proofs.Ythmdpmpnlphfdaa
