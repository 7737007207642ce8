/- DiskLoads: the walk. -/
import Derived.Test.YtooemgcijbdilaaH8
import Derived.Below
import Derived.Lib.Hide
import Derived.OwnWalk
import Derived.WalkKit
import Derived.KernelRfl
import Derived.RowKit3
import Derived.Deep.LoopGhost
import Derived.Deep.QuietTactic
import Derived.BigQuiet
import Derived.WideLaws
import Derived.Great.BuildSlice
import Derived.Outline
import Derived.Deep.DeepCutAuto
import Derived.WalkSpells
import Derived.RegionTactic
import Derived.BigRegion
import Derived.WalkLawsBesides
namespace Go.Proofs.Ytooemgcijbdilaa
set_option linter.unusedVariables false
set_option linter.unusedSimpArgs false
open Go.RowKit Go.Proofs.YtooemgcijbdilaaW.PrintWords Go.Proofs.YtooemgcijbdilaaW.PrintLast Go.Proofs.YtooemgcijbdilaaW.PrintMore
namespace Disk
open Go.Disk PDiskDoes
set_option maxHeartbeats 8000000 in
set_option maxRecDepth 100000 in
theorem loads_any {w : World} (AI : Option Addr) (cI : Nat) (im : List Int) (A : Option Addr) (c : Nat) (ys : List S45) (hI : Kd.C (Kd.int .u8) w AI im.length im) (hcI : im.length ≤ cI) (hIb : ∀ x ∈ im, 0 ≤ x ∧ x ≤ 255) (h : Came w A ys) (hc : ys.length ≤ c) :
    Calls Try.prog 6 #[.slice AI im.length cI, .slice A ys.length c] w fun e w' => e = .returned (.bool true) ∧ Below w.heap.size w w' := by
  have HC := Aside0.mk h
  have HIM := Aside0.mk hI
  have HIB := Aside0.mk hIb
  clear h hI hIb
  by_cases h64 : im.length > 8192
  · go_enter Try.func6, Try.ntmps6
    go_wp2_with fail
    have HB := Aside0.mk (Below.refl w.heap.size w)
    refine (awake_any _).mono ?_
    rintro e w9 ⟨rfl, b9⟩
    have HB9 := Aside0.mk (below_steps HB.out b9)
    clear b9
    go_wp2_with fail
    go_ret
    exact ⟨rfl, HB9.out⟩
  · go_enter Try.func6, Try.ntmps6
    go_wp2_with fail
    refine (few_any A c ys HC.out.row hc).mono ?_
    rintro e w1 ⟨r, rfl, HR, b1⟩
    have HB := Aside0.mk b1
    clear b1
    cases r with
    | false =>
      go_wp2_with fail
      refine (awake_any _).mono ?_
      rintro e w9 ⟨rfl, b9⟩
      have HB9 := Aside0.mk (below_steps HB.out b9)
      clear b9
      go_wp2_with fail
      go_ret
      exact ⟨rfl, HB9.out⟩
    | true =>
      have H40 := Aside0.mk (HR.out rfl)
      clear HR
      by_cases hodd : (im.length : Int) % 256 ≠ 0
      · have HODD := Aside0.mk hodd
        clear hodd
        go_wp2_with fail
        refine ((load_odd AI im.length cI HODD.out).mono (fun e w2 h => show e = _ ∧ Below w1.heap.size w1 w2 from ⟨h.1, by rw [h.2]; exact Below.refl _ _⟩)).mono ?_
        rintro e w2 ⟨rfl, HX⟩
        replace HB := Aside0.mk (below_steps HB.out HX)
        clear HX
        go_wp2_with fail
        refine ((xload_odd AI im.length cI HODD.out).mono (fun e w3 h => show e = _ ∧ Below w2.heap.size w2 w3 from ⟨h.1, by rw [h.2]; exact Below.refl _ _⟩)).mono ?_
        rintro e w3 ⟨rfl, HX⟩
        replace HB := Aside0.mk (below_steps HB.out HX)
        clear HX
        go_wp2_with fail
        refine Go.Rg.region (Below w.heap.size w) (fun x y => Below x.heap.size x y) (fun x => Below.refl _ x) (fun x y z => below_steps) [.s, .s, .s, .s, .s, .s, .s, .s, .s, .s, .s, .s, .s, .s, .s, .v, .s, .s, .s, .s, .s, .s] (by kernel_rfl) (by kernel_rfl) (below_drew1 HB.out) (fun ne => ?_)
        replace HB := Aside0.mk (below_drew1 HB.out)
        refine Go.Rg.lex_q 15 _ _ _ _ _ (by rfl) ?_; simp only [List.take_succ_cons, List.take_zero, List.drop_succ_cons, List.drop_zero]; (repeat (go_big_quiet_step (rfl))); refine wpQuiet_nil ?_
        refine Go.Rg.step_v (fun K' hK => ?_)
        go_wp2_with fail
        refine hK.out _ _ HB.out (Below.refl _ _) ?_
        clear hK K'
        try simp only [Act.put, List.setIfInBounds_toArray, List.set_cons_succ, List.set_cons_zero]
        refine Go.Rg.lex_q 6 _ _ _ _ _ (by rfl) ?_; simp only [List.take_succ_cons, List.take_zero, List.drop_succ_cons, List.drop_zero]; (repeat (go_big_quiet_step (rfl))); refine wpQuiet_nil ?_
        refine Go.Rg.lex_nil ?_
        go_wp2_with fail
        by_cases h0 : ys.length = 0
        · have hl0 : ¬ (0 < ys.length) := by omega
          clear h0
          go_loopg [9] 1 (fun g v9 wr => v9 = .int .i64 0 ∧ Aside0 (Below w.heap.size w wr))
          case atStart => exact ⟨rfl, HB⟩
          case round =>
            clear HB
            obtain ⟨rfl, HB⟩ := hrel
            go_wp2_with fail
            refine (awake_any _).mono ?_
            rintro e w9 ⟨rfl, b9⟩
            have HB9 := Aside0.mk (below_steps HB.out b9)
            clear b9
            go_wp2_with fail
            go_ret
            exact ⟨rfl, HB9.out⟩
        · have hl0 : 0 < ys.length := by omega
          clear h0
          go_loopg [9] 1 (fun g v9 wr => v9 = .int .i64 0 ∧ Aside0 (Below w.heap.size w wr))
          case atStart => exact ⟨rfl, HB⟩
          case round =>
            clear HB
            obtain ⟨rfl, HB⟩ := hrel
            go_wp2_with fail
            refine (awake_any _).mono ?_
            rintro e w9 ⟨rfl, b9⟩
            have HB9 := Aside0.mk (below_steps HB.out b9)
            clear b9
            go_wp2_with fail
            go_ret
            exact ⟨rfl, HB9.out⟩
      · obtain ⟨nb, hnb⟩ : ∃ nb : Nat, im.length = nb * 256 := ⟨im.length / 256, by omega⟩
        have HNB := Aside0.mk hnb
        clear hodd hnb
        by_cases hn : nb < 16
        · have HN := Aside0.mk hn
          clear hn
          go_wp2_with fail
          refine (load_size AI cI im.length nb HNB.out (by omega) (.inl HN.out)).mono ?_
          rintro e w2 ⟨rfl, HX⟩
          replace HB := Aside0.mk (below_steps HB.out HX)
          clear HX
          go_wp2_with fail
          refine (xload_size AI cI im.length nb HNB.out (by omega) (.inl HN.out)).mono ?_
          rintro e w3 ⟨rfl, HX⟩
          replace HB := Aside0.mk (below_steps HB.out HX)
          clear HX
          go_wp2_with fail
          refine Go.Rg.region (Below w.heap.size w) (fun x y => Below x.heap.size x y) (fun x => Below.refl _ x) (fun x y z => below_steps) [.s, .s, .s, .s, .s, .s, .s, .s, .s, .s, .s, .s, .s, .s, .s, .v, .s, .s, .s, .s, .s, .s] (by kernel_rfl) (by kernel_rfl) (below_drew1 HB.out) (fun ne => ?_)
          replace HB := Aside0.mk (below_drew1 HB.out)
          refine Go.Rg.lex_q 15 _ _ _ _ _ (by rfl) ?_; simp only [List.take_succ_cons, List.take_zero, List.drop_succ_cons, List.drop_zero]; (repeat (go_big_quiet_step (rfl))); refine wpQuiet_nil ?_
          refine Go.Rg.step_v (fun K' hK => ?_)
          go_wp2_with fail
          refine hK.out _ _ HB.out (Below.refl _ _) ?_
          clear hK K'
          try simp only [Act.put, List.setIfInBounds_toArray, List.set_cons_succ, List.set_cons_zero]
          refine Go.Rg.lex_q 6 _ _ _ _ _ (by rfl) ?_; simp only [List.take_succ_cons, List.take_zero, List.drop_succ_cons, List.drop_zero]; (repeat (go_big_quiet_step (rfl))); refine wpQuiet_nil ?_
          refine Go.Rg.lex_nil ?_
          go_wp2_with fail
          by_cases h0 : ys.length = 0
          · have hl0 : ¬ (0 < ys.length) := by omega
            clear h0
            go_loopg [9] 1 (fun g v9 wr => v9 = .int .i64 0 ∧ Aside0 (Below w.heap.size w wr))
            case atStart => exact ⟨rfl, HB⟩
            case round =>
              clear HB
              obtain ⟨rfl, HB⟩ := hrel
              go_wp2_with fail
              refine (awake_any _).mono ?_
              rintro e w9 ⟨rfl, b9⟩
              have HB9 := Aside0.mk (below_steps HB.out b9)
              clear b9
              go_wp2_with fail
              go_ret
              exact ⟨rfl, HB9.out⟩
          · have hl0 : 0 < ys.length := by omega
            clear h0
            go_loopg [9] 1 (fun g v9 wr => v9 = .int .i64 0 ∧ Aside0 (Below w.heap.size w wr))
            case atStart => exact ⟨rfl, HB⟩
            case round =>
              clear HB
              obtain ⟨rfl, HB⟩ := hrel
              go_wp2_with fail
              refine (awake_any _).mono ?_
              rintro e w9 ⟨rfl, b9⟩
              have HB9 := Aside0.mk (below_steps HB.out b9)
              clear b9
              go_wp2_with fail
              go_ret
              exact ⟨rfl, HB9.out⟩
        · have HN := Aside0.mk (show 16 ≤ nb ∧ nb ≤ 1024 by have := HNB.out; omega)
          clear hn
          obtain ⟨aI, rfl⟩ : ∃ a, AI = some a := by obtain ⟨a, ha, _⟩ := HIM.out.2.2 (by have := HNB.out; have := HN.out; omega); exact ⟨a, ha⟩
          go_wp2_with fail
          refine (load_yes aI cI im nb HNB.out HN.out (Kd.C_below HIM.out HB.out) HIB.out).mono ?_
          rintro e w2 ⟨db, sb, rfl, p2, b2⟩
          obtain ⟨vw, cs, sp, hx⟩ := p2
          have HSL := Aside0.mk (blk_lt hx.safe)
          have HP2 := Aside0.mk (show PD w2 w.heap.size db sb (loadD im nb) from ⟨vw, cs, sp, hx.ok, Nat.le_trans HB.out.size hx.dbase, Nat.le_trans HB.out.size hx.sbase, fun k hk => Nat.le_trans HB.out.size (hx.wown k hk), hx.cells, hx.waits, hx.safe, hx.room⟩)
          have HB2 := Aside0.mk (below_steps HB.out b2)
          clear hx b2
          go_wp2_with fail
          refine (xload_yes sb HSL.out aI cI im nb HNB.out HN.out hcI (Kd.C_below HIM.out HB2.out) HIB.out).mono ?_
          rintro e w3 ⟨xb, rfl, p3, b3⟩
          obtain ⟨vs, vw, hx⟩ := p3
          obtain ⟨D0, hD0⟩ : ∃ D0, D0 = loadD im nb := ⟨_, rfl⟩
          have HP3 := Aside0.mk (show Both w3 w.heap.size db sb xb D0 from ⟨by rw [hD0]; exact HP2.out.below b3, ⟨vs, vw, by rw [hD0]; exact hx.ok, Nat.le_trans HB2.out.size hx.xbase, hx.slt, fun k hk => Nat.le_trans HB2.out.size (hx.sown k hk), fun k hk => Nat.le_trans HB2.out.size (hx.wown k hk), by rw [hD0]; exact hx.cells, by rw [hD0]; exact hx.safe, by rw [hD0]; exact hx.waits⟩, Nat.le_trans HB2.out.size b3.size⟩)
          have HD0 := Aside0.mk (show D0.waits.length = 0 by rw [hD0]; rfl)
          have HFLAT := Aside0.mk (show D0.safe.flatten = im by rw [hD0]; show (chunks im nb).flatten = im; rw [chunks_flat, ← HNB.out, List.take_length])
          have HB3 := Aside0.mk (below_steps HB2.out b3)
          clear hx b3 HP2 hD0 HB HB2 HSL
          go_wp2_with fail
          obtain ⟨T, hT⟩ : ∃ T, T = strOfNums im := ⟨_, rfl⟩
          have HT := Aside0.mk hT
          clear hT
          have hsi : ∀ m : Go.Reg.In (Below w.heap.size w), (convert 30 9 (.slice (some aI) im.length cI)).run Try.prog m.w = .ok (.string T) m.w := fun m => by rw [HT.out]; exact Kd.C_string Try.underlying30 Try.underlying5 Try.underlying9 (Kd.C_below HIM.out m.h)
          refine Go.Rg.region (Below w.heap.size w) (fun x y => Below x.heap.size x y) (fun x => Below.refl _ x) (fun x y z => below_steps) [.s, .s, .s, .s, .s, .s, .s, .s, .s, .s, .s, .s, .s, .s, .s, .w, .r, .s, .s, .s, .s, .s] (by kernel_rfl) (by kernel_rfl) (below_drew1 HB3.out) (fun ne => ?_)
          refine Go.Rg.lex_q 15 _ _ _ _ _ (by rfl) ?_; simp only [List.take_succ_cons, List.take_zero, List.drop_succ_cons, List.drop_zero]; (repeat (go_big_quiet_step (rfl))); refine wpQuiet_nil ?_
          refine Go.Rg.step_w (by rfl) (fun K' hK => ?_)
          go_wp2_with fail
          have HBd := Aside0.mk (below_drew1 HB3.out)
          have hsf := safe_any (HP3.out.below (below_drew1 (Below.refl w3.heap.size w3))).pd
          rw [HFLAT.out] at hsf
          refine hsf.mono ?_
          clear hsf
          rintro e w4 ⟨v4, rfl, hr4, b4⟩
          obtain ⟨A5, c5, rfl⟩ := Kd.R_slice hr4
          have HR4 := Aside0.mk hr4
          have HS4 := Aside0.mk b4
          have HP4 := Aside0.mk (HP3.out.below ((below_drew1 (Below.refl w3.heap.size w3)).trans b4))
          have HB4 := Aside0.mk (below_steps HBd.out b4)
          clear hr4 b4
          go_wp2_with fail
          refine hK.out _ _ HB4.out HS4.out ?_
          clear hK K'
          try simp only [Act.put, List.setIfInBounds_toArray, List.set_cons_succ, List.set_cons_zero]
          refine Go.Rg.lex_rm 1 _ _ _ _ _ (by rfl) ?_; simp only [List.take_succ_cons, List.take_zero, List.drop_succ_cons, List.drop_zero]
          have hs4 : ∀ m : Go.Reg.In (fun y => Below w.heap.size w y ∧ Below w4.heap.size w4 y), (convert 30 9 (.slice A5 im.length c5)).run Try.prog m.w = .ok (.string T) m.w := fun m => by rw [HT.out]; exact str8 HR4.out _ m.h.2
          (repeat (go_big_quiet_step (rfl))); refine wpQuiet_nil ?_
          refine Go.Rg.lex_q 5 _ _ _ _ _ (by rfl) ?_; simp only [List.take_succ_cons, List.take_zero, List.drop_succ_cons, List.drop_zero]; (repeat (go_big_quiet_step (rfl))); refine wpQuiet_nil ?_
          refine Go.Rg.lex_nil ?_
          clear hsi hs4
          go_wp2_with fail
          go_loopg [9] ys.length (fun g v9 wr => ∃ i : Nat, Aside0 (i + g = ys.length) ∧ v9 = .int .i64 i ∧ Aside0 (Both wr w.heap.size db sb xb (doAll D0 (ys.take i))) ∧ Aside0 (Below w.heap.size w wr))
          case atStart => exact ⟨0, ⟨by omega⟩, rfl, HP4, HB4⟩
          case round =>
            clear HP3 HB3 HBd HP4 HB4
            obtain ⟨i, HI, rfl, HP, HB⟩ := hrel
            by_cases hi : i < ys.length
            · have h40 := H40.out
              obtain ⟨ad, A2, c2, A4, c4, rfl, hcells, hc2, hc4, hby, hN⟩ := Came.at_ HC.out i hi
              have HSTEP := Aside0.mk (doAll_succ D0 ys i hi)
              have hwt := waits_all D0 (ys.take i)
              have hwf : (doAll D0 (ys.take i)).waits.length ≤ 1000 := by rw [List.length_take] at hwt; have := HD0.out; have := H40.out; omega
              obtain ⟨DI, hDI⟩ : ∃ DI, DI = doAll D0 (ys.take i) := ⟨_, rfl⟩
              rw [← hDI] at HSTEP HP hwf
              clear hwt hDI
              obtain ⟨⟨K, N, bs, odd, ms⟩, hy⟩ : ∃ y, y = rd_T45 ys (i : Int) := ⟨_, rfl⟩
              rw [← hy] at hcells hc2 hc4 hby hN HSTEP
              replace HSTEP := Aside0.mk (show doAll D0 (ys.take (i + 1)) = doD DI K N bs odd ms from HSTEP.out)
              clear hy
              have HCC := Aside0.mk hcells
              have HBY := Aside0.mk hby
              have HWF := Aside0.mk hwf
              clear hcells hby hwf
              have hd0 := (HCC.out _ HB.out).1
              have hd1 := (HCC.out _ HB.out).2.1
              have hd2 := (HCC.out _ HB.out).2.2.1
              have hd3 := (HCC.out _ HB.out).2.2.2.1
              have hd4 := (HCC.out _ HB.out).2.2.2.2.1
              go_wp2_with fail
              have HPd := HP
              refine (do_any HPd.out K N A2 bs c2 odd A4 ms c4 (fun x hx => (HCC.out x (HB.out.trans hx)).2.2.2.2.2.1) hc2 HBY.out (fun x hx => (HCC.out x (HB.out.trans hx)).2.2.2.2.2.2) hc4 hN (by have := HWF.out; omega)).mono ?_
              rintro e w2 ⟨rfl, p2, f2, hgt⟩
              rw [← HSTEP.out] at p2
              have HP2 := Aside0.mk p2
              have hlow := HPd.out.low
              have HB2 := Aside0.mk (HB.out.trans (FB.below f2 hlow.1 hlow.2.1 hlow.2.2 HB.out.size))
              clear p2 f2 hgt hlow
              go_wp2_with fail
              go_roundg (gk - 1)
              case measure => have := HI.out; omega
              case rel => exact ⟨i + 1, ⟨by have := HI.out; omega⟩, by go_num, HP2, HB2⟩
            · have hin : i = ys.length := by have := HI.out; omega
              subst hin
              rw [List.take_length] at HP
              have hwt := waits_all D0 ys
              have HWF := Aside0.mk (show (doAll D0 ys).waits.length ≤ 1000000 by have := HD0.out; have := H40.out; omega)
              clear hwt
              go_wp2_with fail
              refine (alike_any HP.out HWF.out).mono ?_
              rintro e w5 ⟨rfl, b5⟩
              replace HB := Aside0.mk (below_steps HB.out b5)
              clear b5
              go_wp2_with fail
              refine (awake_any _).mono ?_
              rintro e w9 ⟨rfl, b9⟩
              have HB9 := Aside0.mk (below_steps HB.out b9)
              clear b9
              go_wp2_with fail
              go_ret
              exact ⟨rfl, HB9.out⟩
end Disk
end Go.Proofs.Ytooemgcijbdilaa
