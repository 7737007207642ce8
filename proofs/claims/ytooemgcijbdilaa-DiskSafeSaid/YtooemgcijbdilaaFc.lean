/- DiskSafe: the walk. -/
import Derived.Test.YtooemgcijbdilaaFb
import Derived.Below
import Derived.Lib.Hide
import Derived.OwnWalk
import Derived.WalkKit
import Derived.KernelRfl
import Derived.RowKit3
import Derived.Deep.LoopGhost
import Derived.Deep.QuietTactic
import Derived.BigQuiet
import Derived.WideLaws
import Derived.Great.BuildSlice
import Derived.Outline
import Derived.Deep.DeepCutAuto
import Derived.WalkSpells
import Derived.RegionTactic
import Derived.BigRegion
import Derived.WalkLawsBesides
namespace Go.Proofs.Ytooemgcijbdilaa
set_option linter.unusedVariables false
set_option linter.unusedSimpArgs false
open Go.RowKit Go.Proofs.YtooemgcijbdilaaW.PrintWords Go.Proofs.YtooemgcijbdilaaW.PrintLast Go.Proofs.YtooemgcijbdilaaW.PrintMore
namespace Disk
open Go.Disk PDiskDoes
theorem calmD_yes {n : Int} {D : Dk} {K N : Int} {bs ms : List Int} {odd : Bool} (h : K = 2 ∧ N = n) : calmD n D (⟨K, N, bs, odd, ms⟩ : S45) = D := by
  unfold calmD skip
  rw [if_pos (by simp [h.1, h.2])]
theorem calmD_no {n : Int} {D : Dk} {K N : Int} {bs ms : List Int} {odd : Bool} (h : ¬ (K = 2 ∧ N = n)) : calmD n D (⟨K, N, bs, odd, ms⟩ : S45) = doD D K N bs odd ms := by
  unfold calmD skip
  rw [if_neg (by simpa using h)]
  rfl
set_option maxHeartbeats 16000000 in
set_option maxRecDepth 100000 in
theorem safe_walk {w : World} (AL : Option Addr) (cL : Nat) (ls : List S45) (AK : Option Addr) (cK : Nat) (ks : List S45) (n : Int) (AM : Option Addr) (cM : Nat) (ms : List Int) (hl : Came w AL ls) (hlc : ls.length ≤ cL) (hk : Came w AK ks) (hkc : ks.length ≤ cK) (hM : Kd.C (Kd.int .i64) w AM ms.length ms) (hcm : ms.length ≤ cM) :
    Calls Try.prog 4 #[.agg #[.slice AL ls.length cL, .slice AK ks.length cK, .int .i64 n, .slice AM ms.length cM]] w fun e w' => e = .returned (.bool true) ∧ Below w.heap.size w w' := by
  have HL := Aside0.mk hl
  have HKK := Aside0.mk hk
  have HM := Aside0.mk hM
  clear hl hk hM
  obtain ⟨W, hW⟩ : ∃ W, W = w.alloc (.cells #[.slice AL ls.length cL, .slice AK ks.length cK, .int .i64 n, .slice AM ms.length cM] 38) := ⟨_, rfl⟩
  have HB := Aside0.mk (show Below w.heap.size w W by rw [hW]; exact (Below.refl _ _).alloc (Nat.le_refl _) _)
  have hbx : W.heap[w.heap.size]? = some (.cells #[.slice AL ls.length cL, .slice AK ks.length cK, .int .i64 n, .slice AM ms.length cM] 38 (0, 0)) := by rw [hW]; exact heap_alloc_new w _
  have hm0 : ∀ m : Go.Reg.In (fun x : World => x = W.drew), m.w.cell? ⟨w.heap.size, 0, none⟩ = some (.slice AL ls.length cL) := fun m => by rw [m.h]; exact cell_blk (show W.drew.heap[w.heap.size]? = _ from hbx)
  have hm1 : ∀ m : Go.Reg.In (fun x : World => x = W.drew), m.w.cell? ⟨w.heap.size, 1, none⟩ = some (.slice AK ks.length cK) := fun m => by rw [m.h]; exact cell_blk (show W.drew.heap[w.heap.size]? = _ from hbx)
  have hm2 : ∀ m : Go.Reg.In (fun x : World => x = W.drew), m.w.cell? ⟨w.heap.size, 2, none⟩ = some (.int .i64 n) := fun m => by rw [m.h]; exact cell_blk (show W.drew.heap[w.heap.size]? = _ from hbx)
  have hm3 : ∀ m : Go.Reg.In (fun x : World => x = W.drew), m.w.cell? ⟨w.heap.size, 3, none⟩ = some (.slice AM ms.length cM) := fun m => by rw [m.h]; exact cell_blk (show W.drew.heap[w.heap.size]? = _ from hbx)
  have HWE := Aside0.mk hW
  clear hW hbx
  go_enter Try.func4, Try.ntmps4
  go_wp2_with fail
  rw [← HWE.out]
  refine Go.Rg.region (fun x : World => x = W.drew) (fun x y => Below x.heap.size x y) (fun x => Below.refl _ x) (fun x y z => below_steps) [.s, .s, .s, .s, .s, .s, .s, .s, .s, .s, .s, .s] (by kernel_rfl) (by kernel_rfl) rfl (fun ne => ?_)
  refine Go.Rg.lex_q 12 _ _ _ _ _ (by rfl) ?_; simp only [List.take_succ_cons, List.take_zero, List.drop_succ_cons, List.drop_zero]; (repeat (go_big_quiet_step (rfl))); refine wpQuiet_nil ?_
  refine Go.Rg.lex_nil ?_
  clear hm0 hm1 hm2 hm3
  replace HB := Aside0.mk (below_drew1 HB.out)
  go_wp2_with fail
  refine (few_any AL cL ls (Kd.C_below HL.out.row HB.out) hlc).mono ?_
  rintro e w1 ⟨r1, rfl, HR1, b1⟩
  replace HB := Aside0.mk (below_steps HB.out b1)
  clear b1
  cases r1 with
  | false =>
    go_wp2_with fail
    refine (awake_any _).mono ?_
    rintro e w9 ⟨rfl, b9⟩
    have HB9 := Aside0.mk (below_steps HB.out b9)
    clear b9
    go_wp2_with fail
    go_ret
    exact ⟨rfl, HB9.out⟩
  | true =>
    have H40 := Aside0.mk (HR1.out rfl)
    clear HR1
    go_wp2_with fail
    refine (few_any AK cK ks (Kd.C_below HKK.out.row HB.out) hkc).mono ?_
    rintro e w2 ⟨r2, rfl, HR2, b2⟩
    replace HB := Aside0.mk (below_steps HB.out b2)
    clear b2
    cases r2 with
    | false =>
      go_wp2_with fail
      refine (awake_any _).mono ?_
      rintro e w9 ⟨rfl, b9⟩
      have HB9 := Aside0.mk (below_steps HB.out b9)
      clear b9
      go_wp2_with fail
      go_ret
      exact ⟨rfl, HB9.out⟩
    | true =>
      have K40 := Aside0.mk (HR2.out rfl)
      clear HR2
      by_cases hn0 : n < 0
      · go_wp2_with fail
        refine (awake_any _).mono ?_
        rintro e w9 ⟨rfl, b9⟩
        have HB9 := Aside0.mk (below_steps HB.out b9)
        clear b9
        go_wp2_with fail
        go_ret
        exact ⟨rfl, HB9.out⟩
      by_cases hn1 : n > 15
      · go_wp2_with fail
        refine (awake_any _).mono ?_
        rintro e w9 ⟨rfl, b9⟩
        have HB9 := Aside0.mk (below_steps HB.out b9)
        clear b9
        go_wp2_with fail
        go_ret
        exact ⟨rfl, HB9.out⟩
      have HN := Aside0.mk (show 0 ≤ n ∧ n ≤ 15 by omega)
      go_wp2_with fail
      refine (blank_yes 16 w2 (by omega)).mono ?_
      rintro e w3 ⟨db, sb, rfl, p2, b2⟩
      obtain ⟨vw, cs, sp, hx⟩ := p2
      have HSL := Aside0.mk (blk_lt hx.safe)
      have HP2 := Aside0.mk (show PD w3 w.heap.size db sb (blankD 16) from ⟨vw, cs, sp, hx.ok, Nat.le_trans HB.out.size hx.dbase, Nat.le_trans HB.out.size hx.sbase, fun k hk => Nat.le_trans HB.out.size (hx.wown k hk), hx.cells, hx.waits, hx.safe, hx.room⟩)
      have HB2 := Aside0.mk (below_steps HB.out b2)
      clear hx b2
      go_wp2_with fail
      refine (xblank_yes 16 w3 sb HSL.out (by omega)).mono ?_
      rintro e w4 ⟨xb, rfl, p3, b3⟩
      obtain ⟨vs, vw, hx⟩ := p3
      obtain ⟨D0, hD0⟩ : ∃ D0, D0 = blankD 16 := ⟨_, rfl⟩
      have HP3 := Aside0.mk (show Both w4 w.heap.size db sb xb (doAll D0 (ls.take 0)) from ⟨by rw [hD0]; exact HP2.out.below b3, ⟨vs, vw, by rw [hD0]; exact hx.ok, Nat.le_trans HB2.out.size hx.xbase, hx.slt, fun k hk => Nat.le_trans HB2.out.size (hx.sown k hk), fun k hk => Nat.le_trans HB2.out.size (hx.wown k hk), by rw [hD0]; exact hx.cells, by rw [hD0]; exact hx.safe, by rw [hD0]; exact hx.waits⟩, Nat.le_trans HB2.out.size b3.size⟩)
      have HD0 := Aside0.mk (show D0.waits.length = 0 by rw [hD0]; rfl)
      have HDL := Aside0.mk (show D0.safe.length = 16 by rw [hD0]; exact zeros_size 16)
      have HB3 := Aside0.mk (below_steps HB2.out b3)
      clear hx b3 HP2 hD0 HB HB2 HSL
      go_wp2_with fail
      go_loopg [11] ls.length (fun g v11 wr => ∃ i : Nat, Aside0 (i + g = ls.length) ∧ v11 = .int .i64 i ∧ Aside0 (Both wr w.heap.size db sb xb (doAll D0 (ls.take i))) ∧ Aside0 (Below w.heap.size w wr))
      case atStart => exact ⟨0, ⟨by omega⟩, rfl, HP3, HB3⟩
      case round =>
        clear HP3 HB3
        obtain ⟨i, HI, rfl, HP, HB⟩ := hrel
        by_cases hi : i < ls.length
        · have h40 := H40.out
          obtain ⟨ad, A2, c2, A4, c4, rfl, hcells, hc2, hc4, hby, hN⟩ := Came.at_ HL.out i hi
          have HSTEP := Aside0.mk (doAll_succ D0 ls i hi)
          have hwt := waits_all D0 (ls.take i)
          have hwf : (doAll D0 (ls.take i)).waits.length ≤ 1000 := by rw [List.length_take] at hwt; have := HD0.out; have := H40.out; omega
          obtain ⟨DI, hDI⟩ : ∃ DI, DI = doAll D0 (ls.take i) := ⟨_, rfl⟩
          rw [← hDI] at HSTEP HP hwf
          clear hwt hDI
          obtain ⟨⟨K, N, bs, odd, ms⟩, hy⟩ : ∃ y, y = rd_T45 ls (i : Int) := ⟨_, rfl⟩
          rw [← hy] at hcells hc2 hc4 hby hN HSTEP
          replace HSTEP := Aside0.mk (show doAll D0 (ls.take (i + 1)) = doD DI K N bs odd ms from HSTEP.out)
          clear hy
          have HCC := Aside0.mk hcells
          have HBY := Aside0.mk hby
          have HWF := Aside0.mk hwf
          clear hcells hby hwf
          have hd0 := (HCC.out _ HB.out).1
          have hd1 := (HCC.out _ HB.out).2.1
          have hd2 := (HCC.out _ HB.out).2.2.1
          have hd3 := (HCC.out _ HB.out).2.2.2.1
          have hd4 := (HCC.out _ HB.out).2.2.2.2.1
          go_wp2_with fail
          have HPd := HP
          refine (do_any HPd.out K N A2 bs c2 odd A4 ms c4 (fun x hx => (HCC.out x (HB.out.trans hx)).2.2.2.2.2.1) hc2 HBY.out (fun x hx => (HCC.out x (HB.out.trans hx)).2.2.2.2.2.2) hc4 hN (by have := HWF.out; omega)).mono ?_
          rintro e w2 ⟨rfl, p2, f2, hgt⟩
          rw [← HSTEP.out] at p2
          have HP2 := Aside0.mk p2
          have hlow := HPd.out.low
          have HB2 := Aside0.mk (HB.out.trans (FB.below f2 hlow.1 hlow.2.1 hlow.2.2 HB.out.size))
          clear p2 f2 hgt hlow
          go_wp2_with fail
          go_roundg (gk - 1)
          case measure => have := HI.out; omega
          case rel => exact ⟨i + 1, ⟨by have := HI.out; omega⟩, by go_num, HP2, HB2⟩
        · have hin : i = ls.length := by have := HI.out; omega
          subst hin
          rw [List.take_length] at HP
          have hwt := waits_all D0 ls
          have hln := all_len D0 ls
          have HWF := Aside0.mk (show (doAll D0 ls).waits.length ≤ 900 ∧ (doAll D0 ls).safe.length = 16 by have := HD0.out; have := H40.out; have := HDL.out; omega)
          obtain ⟨D1, hD1⟩ : ∃ D1, D1 = doAll D0 ls := ⟨_, rfl⟩
          rw [← hD1] at HP HWF
          clear hwt hln hD1 HI
          go_wp2_with fail
          refine (flush_uni HP.out.pd (by have := HWF.out; omega)).mono ?_
          rintro e w5 ⟨rfl, p5, f5⟩
          obtain ⟨r, hr⟩ : ∃ r, r = flushR D1 := ⟨_, rfl⟩
          rw [← hr]
          have HP5 := Aside0.mk (show Pair w5 w.heap.size db sb xb (flushF D1) D1 from ⟨p5, HP.out.fp f5, Nat.le_trans HP.out.bs f5.size⟩)
          have HB5 := Aside0.mk (HB.out.trans (FP.below f5 HP.out.low.1 HP.out.low.2.1 HP.out.bs))
          have HR := Aside0.mk hr
          clear p5 f5 hr
          by_cases hr0 : r = 0
          · have HR0 := Aside0.mk (show flushR D1 = 0 by rw [← HR.out]; exact hr0)
            have HFW := Aside0.mk (flush_ok HR0.out)
            have HFL := Aside0.mk (flushF_len D1)
            subst hr0
            go_wp2_with fail
            refine (read_uni HP5.out.pd n (by rw [HFW.out.1]; show (0:Nat) ≤ _; omega)).mono ?_
            rintro e w6 ⟨v6, rfl, hr6, p6, f6⟩
            have HLAW := Aside0.mk (safe_law HR0.out n HN.out.1 (by have := HWF.out; have := HN.out; omega) ks ms)
            rw [HLAW.out.1]
            have HP6 := Aside0.mk (show Pair w6 w.heap.size db sb xb (readF (flushF D1) n) D1 from ⟨p6, HP5.out.fp f6, Nat.le_trans HP5.out.bs f6.size⟩)
            have HB6 := Aside0.mk (HB5.out.trans (FP.below f6 HP5.out.low.1 HP5.out.low.2.1 HP5.out.bs))
            obtain ⟨A6, c6, rfl⟩ := Kd.R_slice hr6
            obtain ⟨bV, hbV⟩ : ∃ bV, bV = readV (flushF D1) n := ⟨_, rfl⟩
            rw [← hbV] at hr6 ⊢
            obtain ⟨vb, hvb⟩ : ∃ vb, vb = w5.heap.size := ⟨_, rfl⟩
            have HBV := Aside0.mk (show db < vb ∧ sb < vb ∧ xb < vb by rw [hvb]; exact HP5.out.lt)
            rw [← hvb] at hr6
            have HV6 := Aside0.mk hr6
            have HVB := Aside0.mk hbV
            obtain ⟨D2, hD2⟩ : ∃ D2, D2 = readF (flushF D1) n := ⟨_, rfl⟩
            obtain ⟨X2, hX2⟩ : ∃ X2, X2 = D1 := ⟨_, rfl⟩
            have HD2 := Aside0.mk (show D2.waits.length = 0 by rw [hD2]; unfold readF; split <;> (show (flushF D1).waits.length = 0; rw [HFW.out.1]; rfl))
            have HX2 := Aside0.mk (show X2.waits.length ≤ 900 by rw [hX2]; have := HWF.out; omega)
            rw [← hD2] at HP6
            replace HP6 := Aside0.mk (show Pair w6 w.heap.size db sb xb D2 X2 by rw [hX2]; exact HP6.out)
            have HDD := Aside0.mk hD2
            clear hr6 p6 f6 hbV hvb hD2 hX2 HP HB HP5 HB5
            go_wp2_with fail
            go_loopg [14] ks.length (fun g v14 wr => ∃ i : Nat, Aside0 (i + g = ks.length) ∧ v14 = .int .i64 i ∧ Aside0 (Pair wr w.heap.size db sb xb (calmAll n D2 (ks.take i)) (calmAll n X2 (ks.take i))) ∧ Aside0 (Kd.R (Kd.int .u8) 5 wr vb (fun _ => True) (.slice A6 bV.length c6) bV) ∧ Aside0 (Below w.heap.size w wr))
            case atStart => exact ⟨0, ⟨by omega⟩, rfl, HP6, HV6, HB6⟩
            case round =>
              clear HP6 HV6 HB6
              obtain ⟨i, HI, rfl, HP, HV, HB⟩ := hrel
              by_cases hi : i < ks.length
              · have h40 := K40.out
                obtain ⟨ad, A2, c2, A4, c4, rfl, hcells, hc2, hc4, hby, hN⟩ := Came.at_ HKK.out i hi
                have HSTEP := Aside0.mk (calm_succ n D2 ks i hi)
                have HSTEX := Aside0.mk (calm_succ n X2 ks i hi)
                have hwt := calm_waits n (ks.take i) D2
                have hwx := calm_waits n (ks.take i) X2
                have hwf : (calmAll n D2 (ks.take i)).waits.length ≤ 1000 ∧ (calmAll n X2 (ks.take i)).waits.length ≤ 1000 := by rw [List.length_take] at hwt hwx; have := HD2.out; have := HX2.out; have := K40.out; omega
                obtain ⟨DI, hDI⟩ : ∃ DI, DI = calmAll n D2 (ks.take i) := ⟨_, rfl⟩
                obtain ⟨XI, hXI⟩ : ∃ DI, DI = calmAll n X2 (ks.take i) := ⟨_, rfl⟩
                rw [← hDI] at HSTEP HP hwf
                rw [← hXI] at HSTEX HP hwf
                clear hwt hwx hDI hXI
                obtain ⟨⟨K, N, bs, odd, mk⟩, hy⟩ : ∃ y, y = rd_T45 ks (i : Int) := ⟨_, rfl⟩
                rw [← hy] at hcells hc2 hc4 hby hN HSTEP HSTEX
                clear hy
                have HCC := Aside0.mk hcells
                have HBY := Aside0.mk hby
                have HWF := Aside0.mk hwf
                clear hcells hby hwf
                have hd0 := (HCC.out _ HB.out).1
                have hd1 := (HCC.out _ HB.out).2.1
                have hd2 := (HCC.out _ HB.out).2.2.1
                have hd3 := (HCC.out _ HB.out).2.2.2.1
                have hd4 := (HCC.out _ HB.out).2.2.2.2.1
                by_cases hk2 : K = 2
                · by_cases hNn : N = n
                  · rw [calmD_yes ⟨hk2, hNn⟩] at HSTEP HSTEX
                    have e1 : (K != 2) = false := by simp [hk2]
                    have e2 : (N != n) = false := by simp [hNn]
                    clear hk2 hNn
                    go_wp2_with fail
                    go_roundg (gk - 1)
                    case measure => have := HI.out; omega
                    case rel => exact ⟨i + 1, ⟨by have := HI.out; omega⟩, by go_num, ⟨by rw [HSTEP.out, HSTEX.out]; exact HP.out⟩, HV, HB⟩
                  · rw [calmD_no (fun h => hNn h.2)] at HSTEP HSTEX
                    have e1 : (K != 2) = false := by simp [hk2]
                    have e2 : (N != n) = true := by simp [hNn]
                    clear hk2 hNn
                    go_wp2_with fail
                    refine (do2_any HP.out K N A2 bs c2 odd A4 mk c4 (fun x hx => (HCC.out x (HB.out.trans hx)).2.2.2.2.2.1) hc2 HBY.out (fun x hx => (HCC.out x (HB.out.trans hx)).2.2.2.2.2.2) hc4 hN (by have := HWF.out; omega) (by have := HWF.out; omega)).mono ?_
                    rintro e w6 ⟨⟨b6, rfl⟩, p6, f6, hgt⟩
                    have HP6 := Aside0.mk (show Pair w6 w.heap.size db sb xb (calmAll n D2 (ks.take (i + 1))) (calmAll n X2 (ks.take (i + 1))) by rw [HSTEP.out, HSTEX.out]; exact p6)
                    have hlow := HP.out.low
                    have HB6 := Aside0.mk (HB.out.trans (FB.below f6 hlow.1 hlow.2.1 hlow.2.2 HB.out.size))
                    have HV6 := Aside0.mk (u8_fb HV.out f6 HBV.out.1 HBV.out.2.1 HBV.out.2.2)
                    clear p6 f6 hgt hlow
                    go_wp2_with fail
                    go_roundg (gk - 1)
                    case measure => have := HI.out; omega
                    case rel => exact ⟨i + 1, ⟨by have := HI.out; omega⟩, by go_num, HP6, HV6, HB6⟩
                · rw [calmD_no (fun h => hk2 h.1)] at HSTEP HSTEX
                  have e1 : (K != 2) = true := by simp [hk2]
                  clear hk2
                  go_wp2_with fail
                  refine (do2_any HP.out K N A2 bs c2 odd A4 mk c4 (fun x hx => (HCC.out x (HB.out.trans hx)).2.2.2.2.2.1) hc2 HBY.out (fun x hx => (HCC.out x (HB.out.trans hx)).2.2.2.2.2.2) hc4 hN (by have := HWF.out; omega) (by have := HWF.out; omega)).mono ?_
                  rintro e w6 ⟨⟨b6, rfl⟩, p6, f6, hgt⟩
                  have HP6 := Aside0.mk (show Pair w6 w.heap.size db sb xb (calmAll n D2 (ks.take (i + 1))) (calmAll n X2 (ks.take (i + 1))) by rw [HSTEP.out, HSTEX.out]; exact p6)
                  have hlow := HP.out.low
                  have HB6 := Aside0.mk (HB.out.trans (FB.below f6 hlow.1 hlow.2.1 hlow.2.2 HB.out.size))
                  have HV6 := Aside0.mk (u8_fb HV.out f6 HBV.out.1 HBV.out.2.1 HBV.out.2.2)
                  clear p6 f6 hgt hlow
                  go_wp2_with fail
                  go_roundg (gk - 1)
                  case measure => have := HI.out; omega
                  case rel => exact ⟨i + 1, ⟨by have := HI.out; omega⟩, by go_num, HP6, HV6, HB6⟩
              · have hin : i = ks.length := by have := HI.out; omega
                subst hin
                rw [List.take_length] at HP
                have hwt := calm_waits n ks D2
                have HWC := Aside0.mk (show (calmAll n D2 ks).waits.length ≤ 1000 by have := HD2.out; have := K40.out; omega)
                rw [← HDD.out] at HLAW
                obtain ⟨D3, hD3⟩ : ∃ D3, D3 = calmAll n D2 ks := ⟨_, rfl⟩
                rw [← hD3] at HP HWC HLAW
                clear hwt hD3 HI
                go_wp2_with fail
                refine (crash_any HP.out.pd AM cM ms (Kd.C_below HM.out HB.out) hcm (fun x hx => Kd.C_below HM.out (HB.out.trans ⟨hx.os, hx.tape, hx.output, hx.size, fun k hk => hx.block k (Nat.lt_of_lt_of_le hk HB.out.size) (by have := HP.out.low; omega) (fun _ _ _ _ h => h)⟩))).mono ?_
                rintro e w7 ⟨⟨v7, rfl⟩, p7, f7⟩
                have HP7 := Aside0.mk (show Pair w7 w.heap.size db sb xb (crashD D3 ms) (calmAll n X2 ks) from ⟨p7, HP.out.fp f7, Nat.le_trans HP.out.bs f7.size⟩)
                have HB7 := Aside0.mk (HB.out.trans (FP.below f7 HP.out.low.1 HP.out.low.2.1 HP.out.bs))
                have HV7 := Aside0.mk (u8_fb HV.out (FB.of_fp (xb := xb) f7) HBV.out.1 HBV.out.2.1 HBV.out.2.2)
                obtain ⟨D4, hD4⟩ : ∃ D4, D4 = crashD D3 ms := ⟨_, rfl⟩
                have HD4 := Aside0.mk (show D4.waits.length = 0 ∧ D4.off = false by rw [hD4]; exact ⟨rfl, rfl⟩)
                rw [← hD4] at HP7 HLAW
                clear p7 f7 hD4 HP HV HB
                go_wp2_with fail
                refine (read_uni HP7.out.pd n (by have := HD4.out; omega)).mono ?_
                rintro e w8 ⟨v8, rfl, hr8, p8, f8⟩
                rw [HLAW.out.2.1]
                have hbv : readV D4 n = bV := by
                  rw [HVB.out]
                  unfold readV
                  rw [if_pos HLAW.out.2.1, if_pos HLAW.out.1, HLAW.out.2.2]
                rw [hbv] at hr8
                obtain ⟨A8, c8, rfl⟩ := Kd.R_slice hr8
                have HR8 := Aside0.mk hr8
                have HV8 := Aside0.mk (u8_fb HV7.out (FB.of_fp (xb := xb) f8) HBV.out.1 HBV.out.2.1 HBV.out.2.2)
                have HB8 := Aside0.mk (HB7.out.trans (FP.below f8 HP7.out.low.1 HP7.out.low.2.1 HP7.out.bs))
                have HP8 := Aside0.mk p8
                have HOF := Aside0.mk (show (readF D4 n).off = false ∧ (readF D4 n).waits.length = 0 by unfold readF; split <;> exact ⟨HD4.out.2, HD4.out.1⟩)
                have s2 := str8 HV8.out w8 (Below.refl _ _)
                have s3 := str8 HR8.out w8 (Below.refl _ _)
                obtain ⟨T, hT⟩ : ∃ T, T = strOfNums bV := ⟨_, rfl⟩
                rw [← hT] at s2 s3
                clear hT hr8 p8 f8 hbv HP7 HV7 HB7
                go_wp2_with fail
                refine (off_any HP8.out).mono ?_
                rintro e w9 ⟨rfl, rfl⟩
                rw [HOF.out.1]
                go_wp2_with fail
                refine (waits_any HP8.out).mono ?_
                rintro e w10 ⟨rfl, rfl⟩
                rw [HOF.out.2]
                go_wp2_with fail
                have HB := HB8
                refine (awake_any _).mono ?_
                rintro e w9 ⟨rfl, b9⟩
                have HB9 := Aside0.mk (below_steps HB.out b9)
                clear b9
                go_wp2_with fail
                go_ret
                exact ⟨rfl, HB9.out⟩
          · have hrb : (r != 0) = true := by simpa using hr0
            have HB := HB5
            clear hr0
            go_wp2_with fail
            refine (awake_any _).mono ?_
            rintro e w9 ⟨rfl, b9⟩
            have HB9 := Aside0.mk (below_steps HB.out b9)
            clear b9
            go_wp2_with fail
            go_ret
            exact ⟨rfl, HB9.out⟩
end Disk
end Go.Proofs.Ytooemgcijbdilaa
