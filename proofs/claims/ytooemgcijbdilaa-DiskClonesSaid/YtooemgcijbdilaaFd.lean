/- A disk that is nil; DiskClones: the walk. -/
import Derived.Test.YtooemgcijbdilaaH8
import Derived.Below
import Derived.Lib.Hide
import Derived.OwnWalk
import Derived.WalkKit
import Derived.KernelRfl
import Derived.RowKit3
import Derived.Deep.LoopGhost
import Derived.Deep.QuietTactic
import Derived.BigQuiet
import Derived.WideLaws
import Derived.Great.BuildSlice
import Derived.Outline
import Derived.Deep.DeepCutAuto
import Derived.WalkSpells
import Derived.RegionTactic
import Derived.BigRegion
import Derived.WalkLawsBesides
namespace Go.Proofs.Ytooemgcijbdilaa
set_option linter.unusedVariables false
set_option linter.unusedSimpArgs false
open Go.RowKit Go.Proofs.YtooemgcijbdilaaW.PrintWords Go.Proofs.YtooemgcijbdilaaW.PrintLast Go.Proofs.YtooemgcijbdilaaW.PrintMore
namespace Disk
open Go.Disk PDiskDoes
set_option maxRecDepth 100000 in
theorem ready_nil (n : Int) (w : World) : Calls Try.prog 31 #[.pointer none, .int .i64 n] w fun e w' => e = .returned (.int .i64 8) ∧ w' = w := by
  go_enter Try.func31, Try.ntmps31
  go_wp2_with fail
  go_ret
  exact ⟨rfl, rfl⟩
set_option maxHeartbeats 8000000 in
set_option maxRecDepth 100000 in
theorem crash_nil (w : World) : Calls Try.prog 12 #[.pointer none, .slice none 0 0] w fun e w' => (∃ v, e = .returned v) ∧ w' = w := by
  go_enter Try.func12, Try.ntmps12
  go_wp2_with fail
  refine bodyPost_ret (results_none rfl _ _ _) rfl ?_
  exact ⟨⟨_, rfl⟩, rfl⟩
set_option maxHeartbeats 8000000 in
set_option maxRecDepth 100000 in
theorem read_nil (w : World) : Calls Try.prog 13 #[.pointer none, .int .i64 0] w fun e w' => e = .returned (.tuple #[.slice none 0 0, .int .i64 8]) ∧ w' = w := by
  go_enter Try.func13, Try.ntmps13
  go_wp2_with fail
  refine (ready_nil 0 _).mono ?_
  rintro e w1 ⟨rfl, rfl⟩
  go_wp2_with fail
  go_ret2
  exact ⟨rfl, rfl⟩
set_option maxHeartbeats 8000000 in
set_option maxRecDepth 100000 in
theorem write_nil (w : World) : Calls Try.prog 10 #[.pointer none, .int .i64 0, .slice none 0 0] w fun e w' => e = .returned (.int .i64 8) ∧ w' = w := by
  go_enter Try.func10, Try.ntmps10
  go_wp2_with fail
  refine (ready_nil 0 _).mono ?_
  rintro e w1 ⟨rfl, rfl⟩
  go_wp2_with fail
  go_ret
  exact ⟨rfl, rfl⟩
set_option maxHeartbeats 8000000 in
set_option maxRecDepth 100000 in
theorem flush_nil (w : World) : Calls Try.prog 17 #[.pointer none] w fun e w' => e = .returned (.int .i64 8) ∧ w' = w := by
  go_enter Try.func17, Try.ntmps17
  go_wp2_with fail
  refine (ready_nil 0 _).mono ?_
  rintro e w1 ⟨rfl, rfl⟩
  go_wp2_with fail
  go_ret
  exact ⟨rfl, rfl⟩
set_option maxHeartbeats 8000000 in
set_option maxRecDepth 100000 in
theorem stop_nil (w : World) : Calls Try.prog 27 #[.pointer none, .int .i64 0] w fun e w' => e = .returned (.int .i64 8) ∧ w' = w := by
  go_enter Try.func27, Try.ntmps27
  go_wp2_with fail
  go_ret
  exact ⟨rfl, rfl⟩
set_option maxHeartbeats 8000000 in
set_option maxRecDepth 100000 in
theorem off_nil (w : World) : Calls Try.prog 18 #[.pointer none] w fun e w' => e = .returned (.bool true) ∧ w' = w := by
  go_enter Try.func18, Try.ntmps18
  go_wp2_with fail
  go_ret
  exact ⟨rfl, rfl⟩
set_option maxHeartbeats 8000000 in
set_option maxRecDepth 100000 in
theorem blocks_nil (w : World) : Calls Try.prog 28 #[.pointer none] w fun e w' => e = .returned (.int .i64 0) ∧ w' = w := by
  go_enter Try.func28, Try.ntmps28
  go_wp2_with fail
  go_ret
  exact ⟨rfl, rfl⟩
set_option maxHeartbeats 8000000 in
set_option maxRecDepth 100000 in
theorem waits_nil (w : World) : Calls Try.prog 19 #[.pointer none] w fun e w' => e = .returned (.int .i64 0) ∧ w' = w := by
  go_enter Try.func19, Try.ntmps19
  go_wp2_with fail
  go_ret
  exact ⟨rfl, rfl⟩
set_option maxHeartbeats 8000000 in
set_option maxRecDepth 100000 in
theorem safe_nil (w : World) : Calls Try.prog 24 #[.pointer none] w fun e w' => e = .returned (.slice none 0 0) ∧ w' = w := by
  go_enter Try.func24, Try.ntmps24
  go_wp2_with fail
  go_ret
  exact ⟨rfl, rfl⟩
set_option maxHeartbeats 8000000 in
set_option maxRecDepth 100000 in
theorem clone_nil (w : World) : Calls Try.prog 25 #[.pointer none] w fun e w' => e = .returned (.pointer none) ∧ w' = w := by
  go_enter Try.func25, Try.ntmps25
  go_wp2_with fail
  go_ret
  exact ⟨rfl, rfl⟩
set_option maxHeartbeats 8000000 in
set_option maxRecDepth 100000 in
theorem stat_nil (w : World) : Calls Try.prog 21 #[.pointer none] w fun e w' => e = .returned (.agg #[.int .i64 0, .int .i64 0, .int .i64 0]) ∧ Below w.heap.size w w' := by
  go_enter Try.func21, Try.ntmps21
  go_wp2_with fail
  refine bodyPost_ret (results_c rfl _ _ w.heap.size 51 #[.int .i64 0, .int .i64 0, .int .i64 0] (0, 0) _ rfl (heap_alloc_new w _) Try.underlying51 rfl (by kernel_rfl)) rfl ?_
  exact ⟨rfl, (Below.refl _ _).alloc (Nat.le_refl _) _⟩
set_option maxHeartbeats 8000000 in
set_option maxRecDepth 100000 in
theorem image_nil (w : World) : Calls Try.prog 29 #[.pointer none] w fun e w' => e = .returned (.slice none 0 0) ∧ w' = w := by
  go_enter Try.func29, Try.ntmps29
  go_wp2_with fail
  refine (blocks_nil _).mono ?_
  rintro e w1 ⟨rfl, rfl⟩
  go_wp2_with fail
  go_loopg [7, 4, 3] 1 (fun g v7 v4 v3 wr => v7 = .int .i64 0 ∧ v3 = .slice none 0 0 ∧ Aside0 (wr = w1))
  case atStart => exact ⟨rfl, rfl, ⟨rfl⟩⟩
  case round =>
    obtain ⟨rfl, rfl, HW⟩ := hrel
    go_wp2_with fail
    go_ret
    exact ⟨rfl, HW.out⟩
set_option maxHeartbeats 16000000 in
set_option maxRecDepth 100000 in
theorem clones_walk {w : World} (AL : Option Addr) (cL : Nat) (ls : List S45) (AK : Option Addr) (cK : Nat) (ks : List S45) (hl : Came w AL ls) (hlc : ls.length ≤ cL) (hk : Came w AK ks) (hkc : ks.length ≤ cK) :
    Calls Try.prog 7 #[.slice AL ls.length cL, .slice AK ks.length cK] w fun e w' => e = .returned (.bool true) ∧ Below w.heap.size w w' := by
  have HL := Aside0.mk hl
  have HK2 := Aside0.mk hk
  clear hl hk
  go_enter Try.func7, Try.ntmps7
  go_wp2_with fail
  refine (blank_yes 16 w (by omega)).mono ?_
  rintro e w1 ⟨db, sb, rfl, p2, b2⟩
  obtain ⟨vw, cs, sp, hx⟩ := p2
  have HSL := Aside0.mk (blk_lt hx.safe)
  have HP2 := Aside0.mk (show PD w1 w.heap.size db sb (blankD 16) from ⟨vw, cs, sp, hx⟩)
  have HB2 := Aside0.mk b2
  clear hx b2
  go_wp2_with fail
  refine (xblank_yes 16 w1 sb HSL.out (by omega)).mono ?_
  rintro e w2 ⟨xb, rfl, p3, b3⟩
  obtain ⟨vs, vw, hx⟩ := p3
  obtain ⟨D0, hD0⟩ : ∃ D0, D0 = blankD 16 := ⟨_, rfl⟩
  have HP3 := Aside0.mk (show Both w2 w.heap.size db sb xb (doAll D0 (ls.take 0)) from ⟨by rw [hD0]; exact HP2.out.below b3, ⟨vs, vw, by rw [hD0]; exact hx.ok, Nat.le_trans HB2.out.size hx.xbase, hx.slt, fun k hk => Nat.le_trans HB2.out.size (hx.sown k hk), fun k hk => Nat.le_trans HB2.out.size (hx.wown k hk), by rw [hD0]; exact hx.cells, by rw [hD0]; exact hx.safe, by rw [hD0]; exact hx.waits⟩, Nat.le_trans HB2.out.size b3.size⟩)
  have HD0 := Aside0.mk (show D0.waits.length = 0 by rw [hD0]; rfl)
  have HB := Aside0.mk (below_steps HB2.out b3)
  clear hx b3 HP2 hD0 HB2 HSL
  go_wp2_with fail
  refine (few_any AL cL ls (Kd.C_below HL.out.row HB.out) hlc).mono ?_
  rintro e w3 ⟨r1, rfl, HR1, b1⟩
  replace HB := Aside0.mk (below_steps HB.out b1)
  replace HP3 := Aside0.mk (HP3.out.below b1)
  clear b1
  cases r1 with
  | false =>
    go_wp2_with fail
    refine (awake_any _).mono ?_
    rintro e w9 ⟨rfl, b9⟩
    have HB9 := Aside0.mk (below_steps HB.out b9)
    clear b9
    go_wp2_with fail
    go_ret
    exact ⟨rfl, HB9.out⟩
  | true =>
    have H40 := Aside0.mk (HR1.out rfl)
    clear HR1
    go_wp2_with fail
    refine (few_any AK cK ks (Kd.C_below HK2.out.row HB.out) hkc).mono ?_
    rintro e w4 ⟨r2, rfl, HR2, b2⟩
    replace HB := Aside0.mk (below_steps HB.out b2)
    replace HP3 := Aside0.mk (HP3.out.below b2)
    clear b2
    cases r2 with
    | false =>
      go_wp2_with fail
      refine (awake_any _).mono ?_
      rintro e w9 ⟨rfl, b9⟩
      have HB9 := Aside0.mk (below_steps HB.out b9)
      clear b9
      go_wp2_with fail
      go_ret
      exact ⟨rfl, HB9.out⟩
    | true =>
      have K40 := Aside0.mk (HR2.out rfl)
      clear HR2
      go_wp2_with fail
      go_loopg [9] ls.length (fun g v9 wr => ∃ i : Nat, Aside0 (i + g = ls.length) ∧ v9 = .int .i64 i ∧ Aside0 (Both wr w.heap.size db sb xb (doAll D0 (ls.take i))) ∧ Aside0 (Below w.heap.size w wr))
      case atStart => exact ⟨0, ⟨by omega⟩, rfl, HP3, HB⟩
      case round =>
        clear HP3 HB
        obtain ⟨i, HI, rfl, HP, HB⟩ := hrel
        by_cases hi : i < ls.length
        · have h40 := H40.out
          obtain ⟨ad, A2, c2, A4, c4, rfl, hcells, hc2, hc4, hby, hN⟩ := Came.at_ HL.out i hi
          have HSTEP := Aside0.mk (doAll_succ D0 ls i hi)
          have hwt := waits_all D0 (ls.take i)
          have hwf : (doAll D0 (ls.take i)).waits.length ≤ 1000 := by rw [List.length_take] at hwt; have := HD0.out; have := H40.out; omega
          obtain ⟨DI, hDI⟩ : ∃ DI, DI = doAll D0 (ls.take i) := ⟨_, rfl⟩
          rw [← hDI] at HSTEP HP hwf
          clear hwt hDI
          obtain ⟨⟨K, N, bs, odd, ms⟩, hy⟩ : ∃ y, y = rd_T45 ls (i : Int) := ⟨_, rfl⟩
          rw [← hy] at hcells hc2 hc4 hby hN HSTEP
          replace HSTEP := Aside0.mk (show doAll D0 (ls.take (i + 1)) = doD DI K N bs odd ms from HSTEP.out)
          clear hy
          have HCC := Aside0.mk hcells
          have HBY := Aside0.mk hby
          have HWF := Aside0.mk hwf
          clear hcells hby hwf
          have hd0 := (HCC.out _ HB.out).1
          have hd1 := (HCC.out _ HB.out).2.1
          have hd2 := (HCC.out _ HB.out).2.2.1
          have hd3 := (HCC.out _ HB.out).2.2.2.1
          have hd4 := (HCC.out _ HB.out).2.2.2.2.1
          go_wp2_with fail
          have HPd := HP
          refine (do_any HPd.out K N A2 bs c2 odd A4 ms c4 (fun x hx => (HCC.out x (HB.out.trans hx)).2.2.2.2.2.1) hc2 HBY.out (fun x hx => (HCC.out x (HB.out.trans hx)).2.2.2.2.2.2) hc4 hN (by have := HWF.out; omega)).mono ?_
          rintro e w6 ⟨rfl, p2, f2, hgt⟩
          rw [← HSTEP.out] at p2
          have HP2 := Aside0.mk p2
          have hlow := HPd.out.low
          have HB2 := Aside0.mk (HB.out.trans (FB.below f2 hlow.1 hlow.2.1 hlow.2.2 HB.out.size))
          clear p2 f2 hgt hlow
          go_wp2_with fail
          go_roundg (gk - 1)
          case measure => have := HI.out; omega
          case rel => exact ⟨i + 1, ⟨by have := HI.out; omega⟩, by go_num, HP2, HB2⟩
        · have hin : i = ls.length := by have := HI.out; omega
          subst hin
          rw [List.take_length] at HP
          have hwt := waits_all D0 ls
          have HD1 := Aside0.mk (show (doAll D0 ls).waits.length ≤ 900 by have := HD0.out; have := H40.out; omega)
          obtain ⟨D1, hD1⟩ : ∃ D1, D1 = doAll D0 ls := ⟨_, rfl⟩
          rw [← hD1] at HP HD1
          have HPO := HP
          have HWO := Aside0.mk (show D1.waits.length ≤ 1000000 by have := HD1.out; omega)
          clear hwt hD1 HI
          go_wp2_with fail
          refine (clone_any HP.out.pd HWO.out).mono ?_
          rintro e w6 ⟨db', sb', rfl, p6, b6⟩
          have HO6 := Aside0.mk b6
          have HP6 := Aside0.mk p6
          have HSB := Aside0.mk (show wr.heap.size ≤ sb' ∧ sb' < w6.heap.size by obtain ⟨_, _, _, hx⟩ := p6; exact ⟨hx.sbase, blk_lt hx.safe⟩)
          clear p6 b6
          go_wp2_with fail
          refine (xclone_any HPO.out.rd HO6.out HSB.out.1 HSB.out.2 HWO.out).mono ?_
          rintro e w7 ⟨xb', rfl, p7, b7⟩
          obtain ⟨vs', vw', hx⟩ := p7
          have HP7 := Aside0.mk (show Both w7 wr.heap.size db' sb' xb' D1 from ⟨HP6.out.below b7, ⟨vs', vw', hx.ok, Nat.le_trans HO6.out.size hx.xbase, hx.slt, fun k hk => Nat.le_trans HO6.out.size (hx.sown k hk), fun k hk => Nat.le_trans HO6.out.size (hx.wown k hk), hx.cells, hx.safe, hx.waits⟩, Nat.le_trans HO6.out.size b7.size⟩)
          have HO7 := Aside0.mk (below_steps HO6.out b7)
          have HLE := Aside0.mk (show w.heap.size ≤ wr.heap.size from HB.out.size)
          have HB7 := Aside0.mk (below_steps HB.out HO7.out)
          clear hx b7 HP6 HSB HO6
          go_wp2_with fail
          refine (stat_any HP7.out.pd).mono ?_
          rintro e w8 ⟨rfl, b8⟩
          replace HP7 := Aside0.mk (HP7.out.below b8)
          replace HO7 := Aside0.mk (below_steps HO7.out b8)
          replace HB7 := Aside0.mk (below_steps HB7.out b8)
          clear b8
          go_wp2_with fail
          refine (stat_any (HPO.out.below HO7.out).pd).mono ?_
          rintro e w9 ⟨rfl, b8⟩
          replace HP7 := Aside0.mk (HP7.out.below b8)
          replace HO7 := Aside0.mk (below_steps HO7.out b8)
          replace HB7 := Aside0.mk (below_steps HB7.out b8)
          clear b8
          obtain ⟨wo, rfl⟩ : ∃ wo : World, wo = wr := ⟨_, rfl⟩
          go_wp2_with fail
          go_loopg [12] ks.length (fun g v12 wr => ∃ i : Nat, Aside0 (i + g = ks.length) ∧ v12 = .int .i64 i ∧ Aside0 (Both wr wo.heap.size db' sb' xb' (doAll D1 (ks.take i))) ∧ Aside0 (Below wo.heap.size wo wr) ∧ Aside0 (Below w.heap.size w wr))
          case atStart => exact ⟨0, ⟨by omega⟩, rfl, HP7, HO7, HB7⟩
          case round =>
            clear HP7 HO7 HB7 HB
            obtain ⟨i, HI, rfl, HP, HO, HB⟩ := hrel
            by_cases hi : i < ks.length
            · have h40 := K40.out
              obtain ⟨ad, A2, c2, A4, c4, rfl, hcells, hc2, hc4, hby, hN⟩ := Came.at_ HK2.out i hi
              have HSTEP := Aside0.mk (doAll_succ D1 ks i hi)
              have hwt := waits_all D1 (ks.take i)
              have hwf : (doAll D1 (ks.take i)).waits.length ≤ 1000 := by rw [List.length_take] at hwt; have := HD1.out; have := K40.out; omega
              obtain ⟨DI, hDI⟩ : ∃ DI, DI = doAll D1 (ks.take i) := ⟨_, rfl⟩
              rw [← hDI] at HSTEP HP hwf
              clear hwt hDI
              obtain ⟨⟨K, N, bs, odd, ms⟩, hy⟩ : ∃ y, y = rd_T45 ks (i : Int) := ⟨_, rfl⟩
              rw [← hy] at hcells hc2 hc4 hby hN HSTEP
              replace HSTEP := Aside0.mk (show doAll D1 (ks.take (i + 1)) = doD DI K N bs odd ms from HSTEP.out)
              clear hy
              have HCC := Aside0.mk hcells
              have HBY := Aside0.mk hby
              have HWF := Aside0.mk hwf
              clear hcells hby hwf
              have hd0 := (HCC.out _ HB.out).1
              have hd1 := (HCC.out _ HB.out).2.1
              have hd2 := (HCC.out _ HB.out).2.2.1
              have hd3 := (HCC.out _ HB.out).2.2.2.1
              have hd4 := (HCC.out _ HB.out).2.2.2.2.1
              go_wp2_with fail
              refine (do_any HP.out K N A2 bs c2 odd A4 ms c4 (fun x hx => (HCC.out x (HB.out.trans (hx.mono HLE.out))).2.2.2.2.2.1) hc2 HBY.out (fun x hx => (HCC.out x (HB.out.trans (hx.mono HLE.out))).2.2.2.2.2.2) hc4 hN (by have := HWF.out; omega)).mono ?_
              rintro e w9 ⟨rfl, p2, f2, hgt⟩
              rw [← HSTEP.out] at p2
              have HP9 := Aside0.mk p2
              have hlow := HP.out.low
              have HO9 := Aside0.mk (HO.out.trans (FB.below f2 hlow.1 hlow.2.1 hlow.2.2 HO.out.size))
              have HB9 := Aside0.mk (HB.out.trans ((FB.below f2 hlow.1 hlow.2.1 hlow.2.2 HO.out.size).mono HLE.out))
              clear p2 f2 hgt hlow
              go_wp2_with fail
              go_roundg (gk - 1)
              case measure => have := HI.out; omega
              case rel => exact ⟨i + 1, ⟨by have := HI.out; omega⟩, by go_num, HP9, HO9, HB9⟩
            · have hin : i = ks.length := by have := HI.out; omega
              subst hin
              rw [List.take_length] at HP
              have hwt := waits_all D1 ks
              have HWF := Aside0.mk (show (doAll D1 ks).waits.length ≤ 1000000 by have := HD1.out; have := K40.out; omega)
              clear hwt HI
              go_wp2_with fail
              refine (crash_nil _).mono ?_
              rintro e wn ⟨⟨vc, rfl⟩, rfl⟩
              go_wp2_with fail
              refine (read_nil _).mono ?_
              rintro e wn ⟨rfl, rfl⟩
              go_wp2_with fail
              refine (alike_any HP.out HWF.out).mono ?_
              rintro e w9 ⟨rfl, b9⟩
              have HB9 := Aside0.mk (below_steps HB.out b9)
              have HO9 := Aside0.mk (below_steps HO.out b9)
              clear b9
              go_wp2_with fail
              refine (alike_any (HPO.out.below HO9.out) HWO.out).mono ?_
              rintro e w10 ⟨rfl, b10⟩
              have HB10 := Aside0.mk (below_steps HB9.out b10)
              clear b10
              go_wp2_with fail
              refine (write_nil _).mono ?_
              rintro e wn ⟨rfl, rfl⟩
              go_wp2_with fail
              refine (flush_nil _).mono ?_
              rintro e wn ⟨rfl, rfl⟩
              go_wp2_with fail
              refine (stop_nil _).mono ?_
              rintro e wn ⟨rfl, rfl⟩
              go_wp2_with fail
              refine (off_nil _).mono ?_
              rintro e wn ⟨rfl, rfl⟩
              go_wp2_with fail
              refine (blocks_nil _).mono ?_
              rintro e wn ⟨rfl, rfl⟩
              go_wp2_with fail
              refine (waits_nil _).mono ?_
              rintro e wn ⟨rfl, rfl⟩
              go_wp2_with fail
              refine (image_nil _).mono ?_
              rintro e wn ⟨rfl, rfl⟩
              go_wp2_with fail
              refine (safe_nil _).mono ?_
              rintro e wn ⟨rfl, rfl⟩
              go_wp2_with fail
              refine (stat_nil _).mono ?_
              rintro e w11 ⟨rfl, b11⟩
              have HB11 := Aside0.mk (below_steps HB10.out b11)
              clear b11
              go_wp2_with fail
              refine (clone_nil _).mono ?_
              rintro e wn ⟨rfl, rfl⟩
              go_wp2_with fail
              have HB := HB11
              refine (awake_any _).mono ?_
              rintro e w9 ⟨rfl, b9⟩
              have HB9 := Aside0.mk (below_steps HB.out b9)
              clear b9
              go_wp2_with fail
              go_ret
              exact ⟨rfl, HB9.out⟩
end Disk
end Go.Proofs.Ytooemgcijbdilaa
