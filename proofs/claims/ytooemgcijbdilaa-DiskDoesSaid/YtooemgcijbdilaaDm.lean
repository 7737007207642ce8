/- DiskDoes: the walk. -/
import Derived.Test.YtooemgcijbdilaaH8
import Derived.Below
import Derived.Lib.Hide
import Derived.OwnWalk
import Derived.WalkKit
import Derived.KernelRfl
import Derived.RowKit3
import Derived.Deep.LoopGhost
import Derived.Deep.QuietTactic
import Derived.BigQuiet
import Derived.WideLaws
import Derived.Great.BuildSlice
import Derived.Outline
import Derived.Deep.DeepCutAuto
import Derived.WalkSpells
import Derived.RegionTactic
import Derived.BigRegion
import Derived.WalkLawsBesides
namespace Go.Proofs.Ytooemgcijbdilaa
set_option linter.unusedVariables false
set_option linter.unusedSimpArgs false
open Go.RowKit Go.Proofs.YtooemgcijbdilaaW.PrintWords Go.Proofs.YtooemgcijbdilaaW.PrintLast Go.Proofs.YtooemgcijbdilaaW.PrintMore
namespace Disk
open Go.Disk PDiskDoes
set_option maxHeartbeats 8000000 in
set_option maxRecDepth 100000 in
theorem does_any {w : World} (n : Int) (A : Option Addr) (c : Nat) (ys : List S45) (h : Came w A ys) (hc : ys.length ≤ c) :
    Calls Try.prog 5 #[.int .i64 n, .slice A ys.length c] w fun e w' => e = .returned (.bool true) ∧ Below w.heap.size w w' := by
  have HC := Aside0.mk h
  clear h
  by_cases h64 : n > 64
  · go_enter Try.func5, Try.ntmps5
    go_wp2_with fail
    have HB := Aside0.mk (Below.refl w.heap.size w)
    refine (awake_any _).mono ?_
    rintro e w9 ⟨rfl, b9⟩
    have HB9 := Aside0.mk (below_steps HB.out b9)
    clear b9
    go_wp2_with fail
    go_ret
    exact ⟨rfl, HB9.out⟩
  · go_enter Try.func5, Try.ntmps5
    go_wp2_with fail
    refine (few_any A c ys HC.out.row hc).mono ?_
    rintro e w1 ⟨r, rfl, HR, b1⟩
    have HB := Aside0.mk b1
    clear b1
    cases r with
    | false =>
      go_wp2_with fail
      refine (awake_any _).mono ?_
      rintro e w9 ⟨rfl, b9⟩
      have HB9 := Aside0.mk (below_steps HB.out b9)
      clear b9
      go_wp2_with fail
      go_ret
      exact ⟨rfl, HB9.out⟩
    | true =>
      have H40 := Aside0.mk (HR.out rfl)
      clear HR
      by_cases h16 : n < 16
      · go_wp2_with fail
        refine (blank_no n w1 (.inl h16)).mono ?_
        rintro e w2 ⟨rfl, b2⟩
        replace HB := Aside0.mk (below_steps HB.out b2)
        clear b2
        go_wp2_with fail
        refine (xblank_no n w2 (.inl h16)).mono ?_
        rintro e w3 ⟨rfl, b3⟩
        replace HB := Aside0.mk (below_steps HB.out b3)
        clear b3
        go_wp2_with fail
        by_cases h0 : ys.length = 0
        · have hl0 : ¬ (0 < ys.length) := by omega
          clear h0
          go_loopg [9] 1 (fun g v9 wr => v9 = .int .i64 0 ∧ Aside0 (wr = w3))
          case atStart => exact ⟨rfl, ⟨rfl⟩⟩
          case round =>
            obtain ⟨rfl, HW⟩ := hrel
            replace HB := Aside0.mk (show Below w.heap.size w wr by rw [HW.out]; exact HB.out)
            go_wp2_with fail
            refine (awake_any _).mono ?_
            rintro e w9 ⟨rfl, b9⟩
            have HB9 := Aside0.mk (below_steps HB.out b9)
            clear b9
            go_wp2_with fail
            go_ret
            exact ⟨rfl, HB9.out⟩
        · have hl0 : 0 < ys.length := by omega
          clear h0
          go_loopg [9] 1 (fun g v9 wr => v9 = .int .i64 0 ∧ Aside0 (wr = w3))
          case atStart => exact ⟨rfl, ⟨rfl⟩⟩
          case round =>
            obtain ⟨rfl, HW⟩ := hrel
            replace HB := Aside0.mk (show Below w.heap.size w wr by rw [HW.out]; exact HB.out)
            go_wp2_with fail
            refine (awake_any _).mono ?_
            rintro e w9 ⟨rfl, b9⟩
            have HB9 := Aside0.mk (below_steps HB.out b9)
            clear b9
            go_wp2_with fail
            go_ret
            exact ⟨rfl, HB9.out⟩
      · obtain ⟨m, rfl⟩ : ∃ m : Nat, n = m := ⟨n.toNat, by omega⟩
        go_wp2_with fail
        refine (blank_yes m w1 (by omega)).mono ?_
        rintro e w2 ⟨db, sb, rfl, p2, b2⟩
        obtain ⟨vw, cs, sp, hx⟩ := p2
        have HSL := Aside0.mk (blk_lt hx.safe)
        have HP2 := Aside0.mk (show PD w2 w.heap.size db sb (blankD m) from ⟨vw, cs, sp, hx.ok, Nat.le_trans HB.out.size hx.dbase, Nat.le_trans HB.out.size hx.sbase, fun k hk => Nat.le_trans HB.out.size (hx.wown k hk), hx.cells, hx.waits, hx.safe, hx.room⟩)
        have HB2 := Aside0.mk (below_steps HB.out b2)
        clear hx b2
        go_wp2_with fail
        refine (xblank_yes m w2 sb HSL.out (by omega)).mono ?_
        rintro e w3 ⟨xb, rfl, p3, b3⟩
        obtain ⟨vs, vw, hx⟩ := p3
        obtain ⟨D0, hD0⟩ : ∃ D0, D0 = blankD m := ⟨_, rfl⟩
        have HP3 := Aside0.mk (show Both w3 w.heap.size db sb xb (doAll D0 (ys.take 0)) from ⟨by rw [hD0]; exact HP2.out.below b3, ⟨vs, vw, by rw [hD0]; exact hx.ok, Nat.le_trans HB2.out.size hx.xbase, hx.slt, fun k hk => Nat.le_trans HB2.out.size (hx.sown k hk), fun k hk => Nat.le_trans HB2.out.size (hx.wown k hk), by rw [hD0]; exact hx.cells, by rw [hD0]; exact hx.safe, by rw [hD0]; exact hx.waits⟩, Nat.le_trans HB2.out.size b3.size⟩)
        have HD0 := Aside0.mk (show D0.waits.length = 0 by rw [hD0]; rfl)
        have HB3 := Aside0.mk (below_steps HB2.out b3)
        clear hx b3 HP2 hD0
        go_wp2_with fail
        go_loopg [9] ys.length (fun g v9 wr => ∃ i : Nat, Aside0 (i + g = ys.length) ∧ v9 = .int .i64 i ∧ Aside0 (Both wr w.heap.size db sb xb (doAll D0 (ys.take i))) ∧ Aside0 (Below w.heap.size w wr))
        case atStart => exact ⟨0, ⟨by omega⟩, rfl, HP3, HB3⟩
        case round =>
          clear HP3 HB HB2 HB3 HSL
          obtain ⟨i, HI, rfl, HP, HB⟩ := hrel
          by_cases hi : i < ys.length
          · have h40 := H40.out
            obtain ⟨ad, A2, c2, A4, c4, rfl, hcells, hc2, hc4, hby, hN⟩ := Came.at_ HC.out i hi
            have HSTEP := Aside0.mk (doAll_succ D0 ys i hi)
            have hwt := waits_all D0 (ys.take i)
            have hwf : (doAll D0 (ys.take i)).waits.length ≤ 1000 := by rw [List.length_take] at hwt; have := HD0.out; have := H40.out; omega
            obtain ⟨DI, hDI⟩ : ∃ DI, DI = doAll D0 (ys.take i) := ⟨_, rfl⟩
            rw [← hDI] at HSTEP HP hwf
            clear hwt hDI
            obtain ⟨⟨K, N, bs, odd, ms⟩, hy⟩ : ∃ y, y = rd_T45 ys (i : Int) := ⟨_, rfl⟩
            rw [← hy] at hcells hc2 hc4 hby hN HSTEP
            replace HSTEP := Aside0.mk (show doAll D0 (ys.take (i + 1)) = doD DI K N bs odd ms from HSTEP.out)
            clear hy
            have HCC := Aside0.mk hcells
            have HBY := Aside0.mk hby
            have HWF := Aside0.mk hwf
            clear hcells hby hwf

            have hd0 : ∀ m : Go.Reg.In (Below w.heap.size w), m.w.cell? (ad.add (i * 5)) = some (.int .i64 K) := fun m => (HCC.out _ m.h).1
            have hd1 : ∀ m : Go.Reg.In (Below w.heap.size w), m.w.cell? ⟨(ad.add (i * 5)).block, (ad.add (i * 5)).off + 1, none⟩ = some (.int .i64 N) := fun m => (HCC.out _ m.h).2.1
            have hd2 : ∀ m : Go.Reg.In (Below w.heap.size w), m.w.cell? ⟨(ad.add (i * 5)).block, (ad.add (i * 5)).off + 2, none⟩ = some (.slice A2 bs.length c2) := fun m => (HCC.out _ m.h).2.2.1
            have hd3 : ∀ m : Go.Reg.In (Below w.heap.size w), m.w.cell? ⟨(ad.add (i * 5)).block, (ad.add (i * 5)).off + 3, none⟩ = some (.bool odd) := fun m => (HCC.out _ m.h).2.2.2.1
            have hd4 : ∀ m : Go.Reg.In (Below w.heap.size w), m.w.cell? ⟨(ad.add (i * 5)).block, (ad.add (i * 5)).off + 4, none⟩ = some (.slice A4 ms.length c4) := fun m => (HCC.out _ m.h).2.2.2.2.1
            go_wp2_with fail
            refine Go.Rg.region (Below w.heap.size w) (fun x y => x.heap.size ≤ y.heap.size ∧ (wr.heap.size < x.heap.size → y.heap[xb]? = x.heap[xb]?)) (fun x => ⟨Nat.le_refl _, fun _ => rfl⟩) (fun x y z h k => ⟨Nat.le_trans h.1 k.1, fun e => (k.2 (Nat.lt_of_lt_of_le e h.1)).trans (h.2 e)⟩) [.s, .s, .s, .s, .s, .s, .w, .s, .s, .s, .s, .v, .s, .s, .s, .s, .v, .s, .s, .s, .r, .s, .s] (by kernel_rfl) (by kernel_rfl) (below_drew1 HB.out) (fun ne => ?_)
            refine Go.Rg.lex_q 6 _ _ _ _ _ (by rfl) ?_; simp only [List.take_succ_cons, List.take_zero, List.drop_succ_cons, List.drop_zero]; (repeat (go_big_quiet_step (rfl))); refine wpQuiet_nil ?_
            refine Go.Rg.step_w (by rfl) (fun K' hK => ?_)
            clear hd0 hd1 hd2 hd3 hd4
            go_wp2_with fail
            have HBd := Aside0.mk (below_drew1 HB.out)
            have HPd := Aside0.mk (HP.out.below (below_drew1 (Below.refl wr.heap.size wr)))
            refine (do_any HPd.out K N A2 bs c2 odd A4 ms c4 (fun x hx => (HCC.out x (HBd.out.trans hx)).2.2.2.2.2.1) hc2 HBY.out (fun x hx => (HCC.out x (HBd.out.trans hx)).2.2.2.2.2.2) hc4 hN (by have := HWF.out; omega)).mono ?_
            rintro e w2 ⟨rfl, p2, f2, hgt⟩
            rw [← HSTEP.out] at p2
            have hwt2 := waits_all D0 (ys.take (i + 1))
            have HW2 := Aside0.mk (show (doAll D0 (ys.take (i + 1))).waits.length ≤ 1000 by rw [List.length_take] at hwt2; have := HD0.out; have := H40.out; omega)
            obtain ⟨D2, hD2⟩ : ∃ D2, D2 = doAll D0 (ys.take (i + 1)) := ⟨_, rfl⟩
            rw [← hD2] at p2 HW2
            have HD2 := Aside0.mk hD2
            have HP2 := Aside0.mk p2
            have HGT2 := Aside0.mk (show wr.heap.size < w2.heap.size from hgt)
            have hlow := HPd.out.low
            have HB2 := Aside0.mk (HBd.out.trans (FB.below f2 hlow.1 hlow.2.1 hlow.2.2 HBd.out.size))
            clear p2 f2 hgt hwt2 hD2 hlow
            go_wp2_with fail
            refine hK.out _ _ HB2.out ⟨Nat.le_of_lt HGT2.out, fun e => absurd e (Nat.lt_irrefl _)⟩ ?_
            clear hK K'
            try simp only [Act.put, List.setIfInBounds_toArray, List.set_cons_succ, List.set_cons_zero]
            refine Go.Rg.lex_q 4 _ _ _ _ _ (by rfl) ?_; simp only [List.take_succ_cons, List.take_zero, List.drop_succ_cons, List.drop_zero]; (repeat (go_big_quiet_step (rfl))); refine wpQuiet_nil ?_
            refine Go.Rg.step_v (fun K' hK => ?_)
            go_wp2_with fail
            refine (alike_any HP2.out (by have := HW2.out; omega)).mono ?_
            rintro e w3 ⟨rfl, b3⟩
            have HP3 := Aside0.mk (HP2.out.below b3)
            have HS3 := Aside0.mk b3
            have HB3 := Aside0.mk (below_steps HB2.out b3)
            clear b3
            go_wp2_with fail
            refine hK.out _ _ HB3.out ⟨HS3.out.size, fun _ => HS3.out.block _ HP2.out.lt.2.2⟩ ?_
            clear hK K'
            try simp only [Act.put, List.setIfInBounds_toArray, List.set_cons_succ, List.set_cons_zero]
            refine Go.Rg.lex_q 4 _ _ _ _ _ (by rfl) ?_; simp only [List.take_succ_cons, List.take_zero, List.drop_succ_cons, List.drop_zero]; (repeat (go_big_quiet_step (rfl))); refine wpQuiet_nil ?_
            refine Go.Rg.step_v (fun K' hK => ?_)
            go_wp2_with fail
            refine (stat_any HP3.out.pd).mono ?_
            rintro e w4 ⟨rfl, b4⟩
            have HP4 := Aside0.mk (HP3.out.below b4)
            have HS4 := Aside0.mk b4
            have HB4 := Aside0.mk (below_steps HB3.out b4)
            clear b4
            go_wp2_with fail
            refine hK.out _ _ HB4.out ⟨HS4.out.size, fun _ => HS4.out.block _ HP3.out.lt.2.2⟩ ?_
            clear hK K'
            try simp only [Act.put, List.setIfInBounds_toArray, List.set_cons_succ, List.set_cons_zero]
            refine Go.Rg.lex_q 3 _ _ _ _ _ (by rfl) ?_; simp only [List.take_succ_cons, List.take_zero, List.drop_succ_cons, List.drop_zero]; (repeat (go_big_quiet_step (rfl))); refine wpQuiet_nil ?_
            refine Go.Rg.lex_rm 1 _ _ _ _ _ (by rfl) ?_; simp only [List.take_succ_cons, List.take_zero, List.drop_succ_cons, List.drop_zero]
            obtain ⟨_, ⟨vs2, vw2, hx2⟩, _⟩ := HP2.out
            have HX2 := Aside0.mk hx2
            clear hx2
            have hx4 : ∀ m : Go.Reg.In (fun y => Below w.heap.size w y ∧ (w2.heap.size ≤ y.heap.size ∧ (wr.heap.size < w2.heap.size → y.heap[xb]? = w2.heap[xb]?))), m.w.cell? ⟨xb, 4, none⟩ = some (.int .i64 D2.reads) := fun m => cell_blk ((m.h.2.2 HGT2.out).trans HX2.out.cells)
            have hx5 : ∀ m : Go.Reg.In (fun y => Below w.heap.size w y ∧ (w2.heap.size ≤ y.heap.size ∧ (wr.heap.size < w2.heap.size → y.heap[xb]? = w2.heap[xb]?))), m.w.cell? ⟨xb, 5, none⟩ = some (.int .i64 D2.writes) := fun m => cell_blk ((m.h.2.2 HGT2.out).trans HX2.out.cells)
            have hx6 : ∀ m : Go.Reg.In (fun y => Below w.heap.size w y ∧ (w2.heap.size ≤ y.heap.size ∧ (wr.heap.size < w2.heap.size → y.heap[xb]? = w2.heap[xb]?))), m.w.cell? ⟨xb, 6, none⟩ = some (.int .i64 D2.flushes) := fun m => cell_blk ((m.h.2.2 HGT2.out).trans HX2.out.cells)
            (repeat (go_big_quiet_step (rfl))); refine wpQuiet_nil ?_
            clear hx4 hx5 hx6
            refine Go.Rg.lex_q 2 _ _ _ _ _ (by rfl) ?_; simp only [List.take_succ_cons, List.take_zero, List.drop_succ_cons, List.drop_zero]; (repeat (go_big_quiet_step (rfl))); refine wpQuiet_nil ?_
            refine Go.Rg.lex_nil ?_
            rw [HD2.out] at HP4
            go_wp2_with fail
            go_roundg (gk - 1)
            case measure => have := HI.out; omega
            case rel => exact ⟨i + 1, ⟨by have := HI.out; omega⟩, by go_num, HP4, HB4⟩
          · have hin : i = ys.length := by have := HI.out; omega
            subst hin
            go_wp2_with fail
            refine (awake_any _).mono ?_
            rintro e w9 ⟨rfl, b9⟩
            have HB9 := Aside0.mk (below_steps HB.out b9)
            clear b9
            go_wp2_with fail
            go_ret
            exact ⟨rfl, HB9.out⟩

end Disk
end Go.Proofs.Ytooemgcijbdilaa
