/- Part 8 of the proof of SuperWhole: lemmas alone. -/
import Derived.Test.YtopfjmeejpamjaaZSuperWholeP6
import Derived.KernelRfl
section
namespace Go.Proofs.Ytopfjmeejpamjaa
set_option linter.unusedVariables false
set_option linter.unusedSimpArgs false
set_option linter.ambiguousOpen false
open Go.RowKit Go.Proofs.YtopfjmeejpamjaaW.PrintWords Go.Proofs.YtopfjmeejpamjaaW.PrintLast Go.Proofs.YtopfjmeejpamjaaW.PrintMore
namespace Supr
open Go.Num Go.Crc Go.Proofs.Ytopfjmeejpamjaa.Cell Go.Proofs.Ytopfjmeejpamjaa.Sect
theorem head_C {w : World} {a : Addr} {l : List Int} (h : Kd.C (Kd.int .u8) w (some a) l.length l) (m : Nat) (hm : m ≤ l.length) : Kd.C (Kd.int .u8) w (some a) m (l.take m) := by
  have := mid_C h 0 m (by omega)
  rw [List.drop_zero, show a.add 0 = a by unfold Addr.add; split <;> simp_all] at this
  exact this
set_option maxHeartbeats 16000000 in
set_option maxRecDepth 100000 in
theorem sread_any {w : World} {base db sb : Nat} {D : Go.Disk.Dk} (h : Disk.PD w base db sb D) (hfew : D.waits.length ≤ 1000000) :
    Calls Try.prog 18 #[.pointer (some ⟨db, 0, none⟩)] w fun r w' => r = .returned (.tuple #[(readU D).1.v, .int .i64 (readU D).2]) ∧ Disk.PD w' base db sb (readDk D) ∧ Disk.FP base db sb w w' := by
  have HP := Aside0.mk h
  have HFW := Aside0.mk hfew
  have HOK := Aside0.mk h.ok
  obtain ⟨w1, hw1⟩ : ∃ w1, w1 = (w.alloc (.cells (sixU 0 0 0 0 0 0) 25)).alloc (.cells (sixU 0 0 0 0 0 0) 25) := ⟨_, rfl⟩
  have b1 : Below w.heap.size w w1 := by rw [hw1]; exact ((Below.refl _ _).alloc (Nat.le_refl _) _).alloc (by simp) _
  have HRU := Aside0.mk (show RU w w1 base db sb (w.heap.size + 1) D zeroU from ⟨.of_below b1, by
    rw [hw1, Below.heap_alloc _ _ _ (by simp)]
    exact heap_alloc_new w _, by
    rw [hw1]
    have := heap_alloc_new (w.alloc (.cells (sixU 0 0 0 0 0 0) 25)) (.cells (sixU 0 0 0 0 0 0) 25)
    rw [World.size_alloc] at this
    exact this, h.below b1, by omega⟩)
  have HW1 := Aside0.mk hw1
  clear h hfew hw1 b1
  obtain ⟨rd0, hrd⟩ : ∃ z, z = Go.Disk.ready D 0 := ⟨_, rfl⟩
  by_cases hr0 : rd0 ≠ 0
  · have HV := Aside0.mk (show readU D = (zeroU, rd0) by unfold readU; rw [if_pos (by rw [← hrd]; exact hr0), hrd])
    have HD := Aside0.mk (show readDk D = D by unfold readDk; rw [if_pos (by rw [← hrd]; exact hr0)])
    have HR0 := Aside0.mk hrd
    clear hrd
    go_enter Try.func18, Try.ntmps18
    go_wp2_with fail
    rw [← HW1.out]
    go_loopg [10, 5] 2 (fun gk v10 v5 wr => gk = 2 ∧ v10 = .int .i64 0 ∧ v5 = .bool true ∧ wr = w1)
    case atStart => exact ⟨rfl, rfl, rfl, rfl⟩
    case round =>
      obtain ⟨rfl, rfl, rfl, rfl⟩ := hrel
      go_wp2_with fail
      have hrd := Disk.read_no HRU.out.pd 0 (by rw [← HR0.out]; exact hr0)
      rw [← HR0.out] at hrd
      refine hrd.mono ?_
      clear hrd
      rintro r w2 ⟨rfl, hw2⟩
      obtain rfl : w2 = wr := hw2
      obtain ⟨⟨p0, p1, p2, p3, p4, p5⟩, q0, q1, q2, q3, q4, q5⟩ := cells6 HRU.out.zero
      obtain ⟨⟨e0, e1, e2, e3, e4, e5⟩, _⟩ := cells6 HRU.out.best
      go_wp2_with fail
      refine bodyPost_ret (results_ct rfl _ _ w.heap.size 25 (sixU 0 0 0 0 0 0) (0, 0) _ rfl (six_set HRU.out.zero _ _ _ _ _ _) Try.underlying25 rfl (by kernel_rfl)) rfl ?_
      exact ⟨by rw [HV.out]; rfl, by rw [HD.out]; exact PD_six HRU.out.pd HRU.out.zero _ _ _ _ _ _, Fr_then HRU.out.fp (six_below (Below.refl _ _) (Nat.le_refl _) _ _ _ _ _ _)⟩
  · have hr1 : rd0 = 0 := Classical.byContradiction hr0
    rw [hr1] at hrd
    have HR0 := Aside0.mk hrd
    have HV := Aside0.mk (show readU D = ((scanU D 2).2.1, if 0 < (scanU D 2).2.1.g then 0 else if (scanU D 2).2.2 then 6 else 13) by unfold readU; rw [if_neg (by rw [← hrd]; decide)])
    have HD := Aside0.mk (show readDk D = (scanU D 2).1 by unfold readDk; rw [if_neg (by rw [← hrd]; decide)])
    clear hrd hr1 hr0 rd0
    go_enter Try.func18, Try.ntmps18
    go_wp2_with fail
    rw [← HW1.out]
    obtain ⟨bb, hbb⟩ : ∃ bb, bb = w.heap.size + 1 := ⟨_, rfl⟩
    rw [← hbb] at HRU ⊢
    clear hbb HW1 HP
    go_loopg [10, 5] 2 (fun gk v10 v5 wr => ∃ (i : Nat) (bl : Bool) (best : SU) (E : Go.Disk.Dk), Aside0 (i + gk = 2) ∧ v10 = .int .i64 i ∧ v5 = .bool bl ∧ Aside0 (scanU D i = (E, best, bl)) ∧ Aside0 (RU w wr base db sb bb E best))
    case atStart => exact ⟨0, true, zeroU, D, ⟨by omega⟩, rfl, rfl, ⟨rfl⟩, HRU⟩
    case round =>
      clear HRU
      obtain ⟨i, bl, best, E, HI, rfl, rfl, HS, HRU⟩ := hrel
      by_cases hi : i < 2
      · have hii : (i : Int) < 2 := by omega
        have HSM := Aside0.mk (scan_same D i)
        rw [HS.out] at HSM
        have HRI := Aside0.mk (show Go.Disk.ready E i = 0 by
          rw [ready_same HSM.out.1 HSM.out.2.1, ready_two D HOK.out i hi]
          exact HR0.out.symm)
        obtain ⟨V, hV⟩ : ∃ V, V = Disk.readV E i := ⟨_, rfl⟩
        have hvl := Disk.now_len HRU.out.pd.ok (i : Int) (by
          have := HRI.out
          unfold Go.Disk.ready at this
          have h16 := HRU.out.pd.ok.few
          omega)
        rw [show Disk.nowD E i = V by rw [hV]; unfold Disk.readV; rw [if_pos HRI.out]] at hvl
        have HVL := Aside0.mk hvl
        have HS1 := Aside0.mk (show scanU D (i + 1) = (Disk.readF E i, better D.safe.length best i (getU (V.take 64)), bl && zerosB V) by
          rw [hV]
          show (Disk.readF (scanU D i).1 i, better D.safe.length (scanU D i).2.1 i (getU ((Disk.readV (scanU D i).1 i).take 64)), (scanU D i).2.2 && zerosB (Disk.readV (scanU D i).1 i)) = _
          rw [HS.out])
        have hrd := Disk.read_uni HRU.out.pd (i : Int) (by rw [HSM.out.2.2]; have := HFW.out; omega)
        rw [HRI.out, ← hV] at hrd
        have HRD := Aside0.mk hrd
        clear hvl hV hrd HS
        go_wp2_with fail
        refine HRD.out.mono ?_
        clear HRD
        rintro r w2 ⟨v2, rfl, hr2, hp2, hf2⟩
        have HRU2 := Aside0.mk (HRU.out.read hf2 hp2)
        obtain ⟨A2, c2, rfl⟩ := Kd.R_slice hr2
        have HC2 := Aside0.mk (Kd.R_reads' hr2)
        clear hr2 hp2 hf2 HRU
        rw [HVL.out.1] at HC2 ⊢
        go_upto_region 9 with (fail)
        obtain ⟨zb, hzb⟩ : ∃ z, z = zerosB V := ⟨_, rfl⟩
        have hct := contains_any A2 c2 V (by have := HC2.out.2.2; rw [← HVL.out.1] at this; exact this) (by rw [HVL.out.1]; decide)
        rw [← hzb, HVL.out.1] at hct
        rw [← hzb] at HS1
        have HCT := Aside0.mk hct
        clear hct hzb
        go_cut [5] from 23 to 28 (fun v5 wc => v5 = .bool (bl && zb) ∧ wc = w2)
        case first =>
          cases bl with
          | true =>
            go_wp2_with fail
            refine HCT.out.mono ?_
            rintro r w3 ⟨rfl, hw3⟩
            obtain rfl : w3 = w2 := hw3
            go_wp2_with fail
            go_meet
            case rel => exact ⟨by cases zb <;> rfl, rfl⟩
          | false =>
            go_wp2_with fail
            go_meet
            case rel => exact ⟨rfl, rfl⟩
        case rest =>
          obtain ⟨rfl, hwc⟩ := hcut
          obtain rfl : wc = w2 := hwc
          clear HCT
          obtain ⟨a2, rfl⟩ : ∃ a, A2 = some a := by obtain ⟨a, ha, _⟩ := HC2.out.2.2.2.2 (by decide); exact ⟨a, ha⟩
          have hc64 : 64 ≤ c2 := by have := HC2.out.2.1; omega
          have hl64 : (V.take 64).length = 64 := by rw [List.length_take, HVL.out.1]; decide
          have hg := sget_any (w := wc) (some a2) c2 (V.take 64) (by rw [hl64]; have := HC2.out.2.2; rw [← HVL.out.1] at this; exact head_C this 64 (by rw [HVL.out.1]; decide)) (fun y hy => HVL.out.2 y (List.mem_of_mem_take hy)) (by rw [hl64]; exact hc64) (by rw [hl64]; decide)
          rw [hl64] at hg
          obtain ⟨r, hr⟩ : ∃ r, r = getU (V.take 64) := ⟨_, rfl⟩
          rw [← hr] at hg HS1
          have HG := Aside0.mk hg
          clear hg hr hl64
          obtain ⟨s, hs⟩ : ∃ s, s = r.1 := ⟨_, rfl⟩
          obtain ⟨q, hq⟩ : ∃ q, q = r.2 := ⟨_, rfl⟩
          have HBT := Aside0.mk (show better D.safe.length best i r = if q = 0 ∧ s.b = D.safe.length ∧ Int.tmod s.g 2 = i ∧ best.g < s.g then s else best by rw [hs, hq]; rfl)
          rw [← hs, ← hq] at HG
          clear hs hq
          go_upto_region 10 with (fail)
          go_wp2_with fail
          refine HG.out.mono ?_
          clear HG
          rintro y w3 ⟨rfl, b3⟩
          have HRU3 := Aside0.mk (HRU2.out.step b3)
          clear HRU2 b3 hc64
          go_upto_region 11 with (fail)
          obtain ⟨w4, hw4⟩ : ∃ w4, w4 = w3.alloc (.cells (sixU s.g s.b s.l s.p s.q s.o) 25) := ⟨_, rfl⟩
          have b4 : Below w3.heap.size w3 w4 := by rw [hw4]; exact (Below.refl _ _).alloc (Nat.le_refl _) _
          have HS4 := Aside0.mk (show w4.heap[w3.heap.size]? = some (.cells (sixU s.g s.b s.l s.p s.q s.o) 25 (0, 0)) by rw [hw4]; exact heap_alloc_new w3 _)
          have HRU4 := Aside0.mk (HRU3.out.step b4)
          rw [← hw4]
          obtain ⟨sx, hsx⟩ : ∃ sx, sx = w3.heap.size := ⟨_, rfl⟩
          rw [← hsx] at HS4 ⊢
          clear hw4 b4 hsx HRU3
          have HDR := Aside0.mk (HRU4.out.step (below_drew1 (Below.refl w4.heap.size w4)))
          have hbk := Disk.blocks_any HDR.out.pd
          rw [show (Disk.readF E i).safe.length = D.safe.length by rw [(readF_same E i).1, HSM.out.1]] at hbk
          obtain ⟨n, hn⟩ : ∃ n : Int, n = (D.safe.length : Int) := ⟨_, rfl⟩
          rw [← hn] at hbk HBT
          have HBK := Aside0.mk hbk
          clear hbk hn
          have m0 : ∀ m : Go.Reg.In (Below w4.heap.size w4), m.w.cell? ⟨sx, 0, none⟩ = some (.int .i64 s.g) := fun m => cell_blk ((m.h.block sx (blk_lt HS4.out)).trans HS4.out)
          have m1 : ∀ m : Go.Reg.In (Below w4.heap.size w4), m.w.cell? ⟨sx, 1, none⟩ = some (.int .i64 s.b) := fun m => cell_blk ((m.h.block sx (blk_lt HS4.out)).trans HS4.out)
          have m2 : ∀ m : Go.Reg.In (Below w4.heap.size w4), m.w.cell? ⟨bb, 0, none⟩ = some (.int .i64 best.g) := fun m => cell_blk ((m.h.block bb (blk_lt HRU4.out.best)).trans HRU4.out.best)
          by_cases c1 : q = 0
          · subst c1
            by_cases c2 : s.b = n
            · have c2b : (s.b == n) = true := by simpa using c2
              by_cases c3 : Int.tmod s.g 2 = i
              · have c3b : (Int.tmod s.g 2 == (i : Int)) = true := by simpa using c3
                by_cases c4 : best.g < s.g
                · have HNX := Aside0.mk (show better D.safe.length best i r = s by rw [HBT.out, if_pos ⟨rfl, c2, c3, c4⟩])
                  clear HBT c2 c3
                  refine Go.Reg.region (Below w4.heap.size w4) [.s, .s, .s, .s, .s, .s, .w, .s, .s, .s, .s, .s, .s, .s, .s, .s, .s, .s, .s, .s, .s, .s, .s] (by kernel_rfl) (by kernel_rfl) (below_drew1 (Below.refl _ _)) (fun ne => ?_)
                  refine Go.Reg.lex_q 6 _ _ _ _ (by rfl) ?_; simp only [List.take_succ_cons, List.take_zero, List.drop_succ_cons, List.drop_zero]; (repeat (go_big_quiet_step (rfl))); refine wpQuiet_nil ?_
                  refine Go.Reg.step_w (fun KK hKK => ?_)
                  go_wp2_with fail
                  refine HBK.out.mono ?_
                  rintro y w5 ⟨rfl, hw5⟩
                  obtain rfl : w5 = w4.drew := hw5
                  go_wp2_with fail
                  refine hKK.out _ _ (below_drew1 (Below.refl _ _)) ?_
                  clear hKK KK
                  refine Go.Reg.lex_q 16 _ _ _ _ (by rfl) ?_; simp only [List.take_succ_cons, List.take_zero, List.drop_succ_cons, List.drop_zero]; (repeat (go_big_quiet_step (rfl))); refine wpQuiet_nil ?_
                  refine Go.Reg.lex_nil ?_
                  clear m0 m1 m2
                  have HS5 := Aside0.mk (show w4.drew.heap[sx]? = some (.cells (sixU s.g s.b s.l s.p s.q s.o) 25 (0, 0)) from HS4.out)
                  obtain ⟨w5, hw5⟩ : ∃ w5, w5 = w4.drew := ⟨_, rfl⟩
                  rw [← hw5] at HDR HS5 ⊢
                  clear HBK HS4 HRU4 hw5
                  obtain ⟨⟨k0, k1, k2, k3, k4, k5⟩, _⟩ := cells6 HS5.out
                  obtain ⟨⟨e0, e1, e2, e3, e4, e5⟩, q0, q1, q2, q3, q4, q5⟩ := cells6 HDR.out.best
                  go_wp2_with fail
                  go_roundg (2 - (i + 1))
                  case measure => have := HI.out; omega
                  case rel => exact ⟨i + 1, bl && zb, s, Disk.readF E i, ⟨by have := HI.out; omega⟩, by go_num, rfl, ⟨by rw [HS1.out, HNX.out]⟩, ⟨HDR.out.set s⟩⟩
                · have c4b : decide (best.g < s.g) = false := decide_eq_false c4
                  have HNX := Aside0.mk (show better D.safe.length best i r = best by rw [HBT.out, if_neg (fun h => c4 h.2.2.2)])
                  clear HBT
                  refine Go.Reg.region (Below w4.heap.size w4) [.s, .s, .s, .s, .s, .s, .w, .s, .s, .s, .s, .s, .s, .s, .s, .s, .s, .s, .s, .s, .s, .s, .s] (by kernel_rfl) (by kernel_rfl) (below_drew1 (Below.refl _ _)) (fun ne => ?_)
                  refine Go.Reg.lex_q 6 _ _ _ _ (by rfl) ?_; simp only [List.take_succ_cons, List.take_zero, List.drop_succ_cons, List.drop_zero]; (repeat (go_big_quiet_step (rfl))); refine wpQuiet_nil ?_
                  refine Go.Reg.step_w (fun KK hKK => ?_)
                  go_wp2_with fail
                  refine HBK.out.mono ?_
                  rintro y w5 ⟨rfl, hw5⟩
                  obtain rfl : w5 = w4.drew := hw5
                  go_wp2_with fail
                  refine hKK.out _ _ (below_drew1 (Below.refl _ _)) ?_
                  clear hKK KK
                  refine Go.Reg.lex_q 16 _ _ _ _ (by rfl) ?_; simp only [List.take_succ_cons, List.take_zero, List.drop_succ_cons, List.drop_zero]; (repeat (go_big_quiet_step (rfl))); refine wpQuiet_nil ?_
                  refine Go.Reg.lex_nil ?_
                  clear m0 m1 m2
                  go_wp2_with fail
                  go_roundg (2 - (i + 1))
                  case measure => have := HI.out; omega
                  case rel => exact ⟨i + 1, bl && zb, best, Disk.readF E i, ⟨by have := HI.out; omega⟩, by go_num, rfl, ⟨by rw [HS1.out, HNX.out]⟩, HDR⟩
              · have c3b : (Int.tmod s.g 2 == (i : Int)) = false := by simpa using c3
                have HNX := Aside0.mk (show better D.safe.length best i r = best by rw [HBT.out, if_neg (fun h => c3 h.2.2.1)])
                clear HBT
                refine Go.Reg.region (Below w4.heap.size w4) [.s, .s, .s, .s, .s, .s, .w, .s, .s, .s, .s, .s, .s, .s, .s, .s, .s, .s, .s, .s, .s, .s, .s] (by kernel_rfl) (by kernel_rfl) (below_drew1 (Below.refl _ _)) (fun ne => ?_)
                refine Go.Reg.lex_q 6 _ _ _ _ (by rfl) ?_; simp only [List.take_succ_cons, List.take_zero, List.drop_succ_cons, List.drop_zero]; (repeat (go_big_quiet_step (rfl))); refine wpQuiet_nil ?_
                refine Go.Reg.step_w (fun KK hKK => ?_)
                go_wp2_with fail
                refine HBK.out.mono ?_
                rintro y w5 ⟨rfl, hw5⟩
                obtain rfl : w5 = w4.drew := hw5
                go_wp2_with fail
                refine hKK.out _ _ (below_drew1 (Below.refl _ _)) ?_
                clear hKK KK
                refine Go.Reg.lex_q 16 _ _ _ _ (by rfl) ?_; simp only [List.take_succ_cons, List.take_zero, List.drop_succ_cons, List.drop_zero]; (repeat (go_big_quiet_step (rfl))); refine wpQuiet_nil ?_
                refine Go.Reg.lex_nil ?_
                clear m0 m1 m2
                go_wp2_with fail
                go_roundg (2 - (i + 1))
                case measure => have := HI.out; omega
                case rel => exact ⟨i + 1, bl && zb, best, Disk.readF E i, ⟨by have := HI.out; omega⟩, by go_num, rfl, ⟨by rw [HS1.out, HNX.out]⟩, HDR⟩
            · have c2b : (s.b == n) = false := by simpa using c2
              have HNX := Aside0.mk (show better D.safe.length best i r = best by rw [HBT.out, if_neg (fun h => c2 h.2.1)])
              clear HBT
              refine Go.Reg.region (Below w4.heap.size w4) [.s, .s, .s, .s, .s, .s, .w, .s, .s, .s, .s, .s, .s, .s, .s, .s, .s, .s, .s, .s, .s, .s, .s] (by kernel_rfl) (by kernel_rfl) (below_drew1 (Below.refl _ _)) (fun ne => ?_)
              refine Go.Reg.lex_q 6 _ _ _ _ (by rfl) ?_; simp only [List.take_succ_cons, List.take_zero, List.drop_succ_cons, List.drop_zero]; (repeat (go_big_quiet_step (rfl))); refine wpQuiet_nil ?_
              refine Go.Reg.step_w (fun KK hKK => ?_)
              go_wp2_with fail
              refine HBK.out.mono ?_
              rintro y w5 ⟨rfl, hw5⟩
              obtain rfl : w5 = w4.drew := hw5
              go_wp2_with fail
              refine hKK.out _ _ (below_drew1 (Below.refl _ _)) ?_
              clear hKK KK
              refine Go.Reg.lex_q 16 _ _ _ _ (by rfl) ?_; simp only [List.take_succ_cons, List.take_zero, List.drop_succ_cons, List.drop_zero]; (repeat (go_big_quiet_step (rfl))); refine wpQuiet_nil ?_
              refine Go.Reg.lex_nil ?_
              clear m0 m1 m2
              go_wp2_with fail
              go_roundg (2 - (i + 1))
              case measure => have := HI.out; omega
              case rel => exact ⟨i + 1, bl && zb, best, Disk.readF E i, ⟨by have := HI.out; omega⟩, by go_num, rfl, ⟨by rw [HS1.out, HNX.out]⟩, HDR⟩
          · have c1b : (q == 0) = false := by simpa using c1
            have HNX := Aside0.mk (show better D.safe.length best i r = best by rw [HBT.out, if_neg (fun h => c1 h.1)])
            clear HBT
            refine Go.Reg.region (Below w4.heap.size w4) [.s, .s, .s, .s, .s, .s, .w, .s, .s, .s, .s, .s, .s, .s, .s, .s, .s, .s, .s, .s, .s, .s, .s] (by kernel_rfl) (by kernel_rfl) (below_drew1 (Below.refl _ _)) (fun ne => ?_)
            refine Go.Reg.lex_q 6 _ _ _ _ (by rfl) ?_; simp only [List.take_succ_cons, List.take_zero, List.drop_succ_cons, List.drop_zero]; (repeat (go_big_quiet_step (rfl))); refine wpQuiet_nil ?_
            refine Go.Reg.step_w (fun KK hKK => ?_)
            go_wp2_with fail
            refine hKK.out _ _ (below_drew1 (Below.refl _ _)) ?_
            clear hKK KK
            refine Go.Reg.lex_q 16 _ _ _ _ (by rfl) ?_; simp only [List.take_succ_cons, List.take_zero, List.drop_succ_cons, List.drop_zero]; (repeat (go_big_quiet_step (rfl))); refine wpQuiet_nil ?_
            refine Go.Reg.lex_nil ?_
            clear m0 m1 m2
            go_wp2_with fail
            go_roundg (2 - (i + 1))
            case measure => have := HI.out; omega
            case rel => exact ⟨i + 1, bl && zb, best, Disk.readF E i, ⟨by have := HI.out; omega⟩, by go_num, rfl, ⟨by rw [HS1.out, HNX.out]⟩, HDR⟩
      · have hi2 : i = 2 := by have := HI.out; omega
        subst hi2
        have HV2 := Aside0.mk (show readU D = (best, if 0 < best.g then 0 else if bl = true then 6 else 13) by rw [HV.out, HS.out])
        have HD2 := Aside0.mk (show readDk D = E by rw [HD.out, HS.out])
        obtain ⟨⟨p0, p1, p2, p3, p4, p5⟩, q0, q1, q2, q3, q4, q5⟩ := cells6 HRU.out.zero
        obtain ⟨⟨e0, e1, e2, e3, e4, e5⟩, _⟩ := cells6 HRU.out.best
        clear HV HD HS hi
        have HFIN := Aside0.mk (show ∀ C : Int, (C = if 0 < best.g then 0 else if bl = true then 6 else 13) → Ending.returned (.tuple #[best.v, .int .i64 C]) = Ending.returned (.tuple #[(readU D).1.v, .int .i64 (readU D).2]) from fun C hC => by rw [HV2.out, hC])
        by_cases hg : 0 < best.g
        · have HFX := Aside0.mk (HFIN.out 0 (by rw [if_pos hg]))
          clear HFIN HV2
          go_wp2_with fail
          refine bodyPost_ret (results_ct rfl _ _ w.heap.size 25 (sixU best.g best.b best.l best.p best.q best.o) (0, 0) _ rfl (six_set HRU.out.zero _ _ _ _ _ _) Try.underlying25 rfl (by kernel_rfl)) rfl ?_
          exact ⟨HFX.out, by rw [HD2.out]; exact PD_six HRU.out.pd HRU.out.zero _ _ _ _ _ _, Fr_then HRU.out.fp (six_below (Below.refl _ _) (Nat.le_refl _) _ _ _ _ _ _)⟩
        · cases bl with
          | true =>
            have HFX := Aside0.mk (HFIN.out 6 (by rw [if_neg hg]; rfl))
            clear HFIN HV2
            go_wp2_with fail
            refine bodyPost_ret (results_ct rfl _ _ w.heap.size 25 (sixU best.g best.b best.l best.p best.q best.o) (0, 0) _ rfl (six_set HRU.out.zero _ _ _ _ _ _) Try.underlying25 rfl (by kernel_rfl)) rfl ?_
            exact ⟨HFX.out, by rw [HD2.out]; exact PD_six HRU.out.pd HRU.out.zero _ _ _ _ _ _, Fr_then HRU.out.fp (six_below (Below.refl _ _) (Nat.le_refl _) _ _ _ _ _ _)⟩
          | false =>
            have HFX := Aside0.mk (HFIN.out 13 (by rw [if_neg hg]; rfl))
            clear HFIN HV2
            go_wp2_with fail
            refine bodyPost_ret (results_ct rfl _ _ w.heap.size 25 (sixU best.g best.b best.l best.p best.q best.o) (0, 0) _ rfl (six_set HRU.out.zero _ _ _ _ _ _) Try.underlying25 rfl (by kernel_rfl)) rfl ?_
            exact ⟨HFX.out, by rw [HD2.out]; exact PD_six HRU.out.pd HRU.out.zero _ _ _ _ _ _, Fr_then HRU.out.fp (six_below (Below.refl _ _) (Nat.le_refl _) _ _ _ _ _ _)⟩
end Supr
end Go.Proofs.Ytopfjmeejpamjaa
end
section
namespace Go.Proofs.Ytopfjmeejpamjaa
set_option linter.unusedVariables false
set_option linter.unusedSimpArgs false
set_option linter.ambiguousOpen false
open Go.RowKit Go.Proofs.YtopfjmeejpamjaaW.PrintWords Go.Proofs.YtopfjmeejpamjaaW.PrintLast Go.Proofs.YtopfjmeejpamjaaW.PrintMore
namespace Supr
open Go.Num Go.Crc Go.Proofs.Ytopfjmeejpamjaa.Cell Go.Proofs.Ytopfjmeejpamjaa.Sect
def blockU (s : SU) : List Int := s.put.1 ++ List.replicate 192 0
def writeU (D : Go.Disk.Dk) (s : SU) : Go.Disk.Dk × Int :=
  if s.ok = true ∧ s.b = D.safe.length then
    (if (Disk.writeD D (Int.tmod s.g 2) (blockU s)).2 ≠ 0 then Disk.writeD D (Int.tmod s.g 2) (blockU s) else (Disk.flushF (Disk.writeD D (Int.tmod s.g 2) (blockU s)).1, Disk.flushR (Disk.writeD D (Int.tmod s.g 2) (blockU s)).1))
  else (D, 1)
theorem block_byte (s : SU) : ∀ y ∈ blockU s, 0 ≤ y ∧ y ≤ 255 := by
  intro y hy
  rcases List.mem_append.1 hy with h | h
  · exact put_bytes _ _ _ _ _ _ y h
  · have := (List.mem_replicate.1 h).2; omega
theorem block_len {s : SU} (h : s.ok = true) : (blockU s).length = 256 := by
  unfold blockU
  rw [List.length_append, List.length_replicate, show s.put.1.length = 64 from put_yes_len h]
theorem write_waits (D : Go.Disk.Dk) (n : Int) (b : List Int) : (Disk.writeD D n b).1.waits.length ≤ D.waits.length + 1 := by
  have := Disk.waits_do D 2 n b false []
  unfold Disk.writeD
  split
  · exact Nat.le_succ _
  · split
    · exact Nat.le_succ _
    · split <;> simp [Disk.waits_deed, Disk.waitD]
set_option maxHeartbeats 16000000 in
set_option maxRecDepth 100000 in
theorem swrite_nil {w : World} (s : SU) : Calls Try.prog 15 #[.pointer none, s.v] w fun r w' => r = .returned (.int .i64 8) ∧ Below w.heap.size w w' := by
  go_enter Try.func15, Try.ntmps15
  go_wp2_with fail
  go_ret
  exact ⟨rfl, (Below.refl _ _).alloc (Nat.le_refl _) _⟩
structure WU (w0 w : World) (s : SU) : Prop where
  bel : Below w0.heap.size w0 w
  sup : w.heap[w0.heap.size]? = some (.cells (sixU s.g s.b s.l s.p s.q s.o) 25 (0, 0))
theorem WU.step {w0 w w' : World} {s : SU} (h : WU w0 w s) (f : Below w.heap.size w w') : WU w0 w' s :=
  ⟨h.bel.trans (f.mono h.bel.size), (f.block _ (blk_lt h.sup)).trans h.sup⟩
set_option maxHeartbeats 16000000 in
set_option maxRecDepth 100000 in
theorem swrite_any {w : World} {base db sb : Nat} {D : Go.Disk.Dk} (h : Disk.PD w base db sb D) (s : SU) (hfew : D.waits.length ≤ 900000) :
    Calls Try.prog 15 #[.pointer (some ⟨db, 0, none⟩), s.v] w fun r w' => r = .returned (.int .i64 (writeU D s).2) ∧ Disk.PD w' base db sb (writeU D s).1 ∧ Disk.FP base db sb w w' := by
  have HFW := Aside0.mk hfew
  obtain ⟨w1, hw1⟩ : ∃ w1, w1 = w.alloc (.cells (sixU s.g s.b s.l s.p s.q s.o) 25) := ⟨_, rfl⟩
  have b1 : Below w.heap.size w w1 := by rw [hw1]; exact (Below.refl _ _).alloc (Nat.le_refl _) _
  have HWU := Aside0.mk (show WU w w1 s from ⟨b1, by rw [hw1]; exact heap_alloc_new w _⟩)
  have HW1 := Aside0.mk hw1
  have HPD := Aside0.mk h
  clear h hfew hw1 b1
  obtain ⟨R, hR⟩ : ∃ R, R = writeU D s := ⟨_, rfl⟩
  rw [← hR]
  have HR := Aside0.mk hR
  have hput := sput_R (w := w1) s.g s.b s.l s.p s.q s.o
  obtain ⟨P, hP⟩ : ∃ P, P = putU s.g s.b s.l s.p s.q s.o := ⟨_, rfl⟩
  rw [← hP] at hput
  have HPU := Aside0.mk hput
  have HP := Aside0.mk hP
  clear hR hput hP
  by_cases hok : s.ok = true
  · have HOK := Aside0.mk hok
    have HC := Aside0.mk (show P = (P.1, 0) from Prod.ext rfl (by rw [HP.out, put_code, if_pos hok]))
    rw [HC.out] at HPU
    have HPL := Aside0.mk (show P.1.length = 64 by rw [HP.out]; exact put_yes_len hok)
    clear hok
    go_enter Try.func15, Try.ntmps15
    go_wp2_with fail
    rw [← HW1.out]
    refine HPU.out.mono ?_
    clear HPU HW1
    rintro r w2 ⟨v2, rfl, hr2, b2⟩
    have HWU2 := Aside0.mk (HWU.out.step b2)
    have HR2 := Aside0.mk (Kd.R_lower (base' := w.heap.size) hr2 HWU.out.bel.size)
    obtain ⟨A2, c2, rfl⟩ := Kd.R_slice hr2
    rw [HPL.out] at HR2 ⊢
    clear hr2 b2 HWU
    go_upto_region 6 with (fail)
    obtain ⟨n, hn⟩ : ∃ n : Int, n = (D.safe.length : Int) := ⟨_, rfl⟩
    have HNE := Aside0.mk hn
    clear hn
    go_cut [22] from 18 to 22 (fun v22 wc => v22 = .bool (s.b != n) ∧ wc = w2.drew)
    case first =>
      refine Go.Reg.region (Below w2.heap.size w2) [.s, .s, .s, .w, .p] (by kernel_rfl) (by kernel_rfl) (below_drew1 (Below.refl _ _)) (fun ne => ?_)
      have m1 : ∀ m : Go.Reg.In (Below w2.heap.size w2), m.w.cell? ⟨w.heap.size, 1, none⟩ = some (.int .i64 s.b) := fun m => cell_blk ((m.h.block _ (blk_lt HWU2.out.sup)).trans HWU2.out.sup)
      refine Go.Reg.lex_q 3 _ _ _ _ (by rfl) ?_; simp only [List.take_succ_cons, List.take_zero, List.drop_succ_cons, List.drop_zero]; (repeat (go_big_quiet_step (rfl))); refine wpQuiet_nil ?_
      refine Go.Reg.step_w (fun KK hKK => ?_)
      have hbk := Disk.blocks_any (HPD.out.below (HWU2.out.step (below_drew1 (Below.refl w2.heap.size w2))).bel)
      rw [← HNE.out] at hbk
      have HBK := Aside0.mk hbk
      clear hbk
      go_wp2_with fail
      refine HBK.out.mono ?_
      rintro y w5 ⟨rfl, hw5⟩
      obtain rfl : w5 = w2.drew := hw5
      go_wp2_with fail
      refine hKK.out _ _ (below_drew1 (Below.refl _ _)) ?_
      clear hKK KK
      refine Go.Reg.lex_qp 1 _ _ _ _ _ (by rfl) ?_; simp only [List.take_succ_cons, List.take_zero, List.drop_succ_cons, List.drop_zero]; (repeat (go_big_quiet_step (rfl))); refine wpQuiet_nil ?_
      refine Go.Reg.lex_nil ?_
      clear m1 HBK
      go_wp2_with fail
      go_meet
      case rel => exact ⟨rfl, rfl⟩
    case rest =>
      obtain ⟨rfl, rfl⟩ := hcut
      obtain ⟨w3, hw3⟩ : ∃ w3, w3 = w2.drew := ⟨_, rfl⟩
      have HWU3 := Aside0.mk (show WU w w3 s by rw [hw3]; exact HWU2.out.step (below_drew1 (Below.refl w2.heap.size w2)))
      have HR3 := Aside0.mk (show Kd.R (Kd.int .u8) 5 w3 w.heap.size (fun _ => True) (.slice A2 64 c2) P.1 by rw [hw3]; exact Kd.R_below HR2.out (below_drew1 (Below.refl w2.heap.size w2)))
      rw [← hw3]
      clear hw3 HWU2 HR2
      by_cases hbn : s.b = n
      · have hbb : (s.b != n) = false := by simp [hbn]
        rw [hbb]
        clear hbb
        have HRV := Aside0.mk (show R = if (Disk.writeD D (Int.tmod s.g 2) (blockU s)).2 ≠ 0 then Disk.writeD D (Int.tmod s.g 2) (blockU s) else (Disk.flushF (Disk.writeD D (Int.tmod s.g 2) (blockU s)).1, Disk.flushR (Disk.writeD D (Int.tmod s.g 2) (blockU s)).1) by rw [HR.out]; unfold writeU; rw [if_pos ⟨HOK.out, by rw [hbn, HNE.out]⟩])
        have HBL := Aside0.mk (show P.1 ++ List.replicate 192 0 = blockU s by rw [HP.out]; rfl)
        have HBLL := Aside0.mk (block_len HOK.out)
        clear hbn HR HNE HOK HP HC
        go_upto_region 8 with (fail)
        obtain ⟨W, hW⟩ : ∃ W, W = Disk.writeD D (Int.tmod s.g 2) (blockU s) := ⟨_, rfl⟩
        have HWF := Aside0.mk (show W.1.waits.length ≤ 1000000 by rw [hW]; have := write_waits D (Int.tmod s.g 2) (blockU s); have := HFW.out; omega)
        rw [← hW] at HRV
        have HWW := Aside0.mk hW
        clear hW
        go_cut [7] from 23 to 32 (fun v7 wc => v7 = .int .i64 W.2 ∧ Aside0 (Disk.PD wc base db sb W.1) ∧ Aside0 (Disk.FP base db sb w wc))
        case first =>
          refine Go.Reg.region (fun y => y.heap[w.heap.size]? = some (.cells (sixU s.g s.b s.l s.p s.q s.o) 25 (0, 0))) [.s, .s, .s, .s, .s, .s, .s, .s, .w, .w, .p] (by kernel_rfl) (by kernel_rfl) (show w3.drew.heap[w.heap.size]? = _ from HWU3.out.sup) (fun ne => ?_)
          have m0 : ∀ m : Go.Reg.In (fun y => y.heap[w.heap.size]? = some (.cells (sixU s.g s.b s.l s.p s.q s.o) 25 (0, 0))), m.w.cell? ⟨w.heap.size, 0, none⟩ = some (.int .i64 s.g) := fun m => cell_blk m.h
          refine Go.Reg.lex_q 8 _ _ _ _ (by rfl) ?_; simp only [List.take_succ_cons, List.take_zero, List.drop_succ_cons, List.drop_zero]; (repeat (go_big_quiet_step (rfl))); refine wpQuiet_nil ?_
          clear m0
          obtain ⟨w4, hw4⟩ : ∃ w4, w4 = w3.drew := ⟨_, rfl⟩
          have HWU4 := Aside0.mk (show WU w w4 s by rw [hw4]; exact HWU3.out.step (below_drew1 (Below.refl w3.heap.size w3)))
          have HR4 := Aside0.mk (show Kd.R (Kd.int .u8) 5 w4 w.heap.size (fun _ => True) (.slice A2 64 c2) P.1 by rw [hw4]; exact Kd.R_below HR3.out (below_drew1 (Below.refl w3.heap.size w3)))
          rw [← hw4]
          clear hw4 HWU3 HR3
          refine Go.Reg.step_w (fun KK hKK => ?_)
          go_wp2_with ((with_reducible refine gate_builtin (b := .append) (xs := #[.tmp 27, .tmp 30]) rfl ?_); at_builtin; refine Hid.out ?_)
          refine Lib.hid ?_
          refine Kd.R_append_zeros (Kd.int .u8) (w0 := w) w.heap.size rfl (.tmp 27) (.tmp 30) 26 3 5 (.int .u8 0) 1 rfl Try.underlying26 Try.underlying3 infoU8 rfl (by decide) (by omega) (.slice A2 64 c2) P.1 0 (kx := .i64) 192 (fun _ => True) rfl rfl rfl (fun _ _ => trivial) HR4.out (by omega) HWU4.out.bel HWU4.out.bel.size (by rw [HPL.out]; decide) ?_
          intro v5 w5 ho hb hg _
          rw [show (192 : Int).toNat = 192 from rfl, HBL.out] at ho
          have HWU5 := Aside0.mk (show WU w w5 s from ⟨hb, (hg.block _ (blk_lt HWU4.out.sup) (Kd.R_ne HR4.out HWU4.out.sup (by decide))).trans HWU4.out.sup⟩)
          obtain ⟨A5, c5, rfl⟩ := Kd.R_slice ho
          rw [HBLL.out] at ho ⊢
          have HR5 := Aside0.mk ho
          clear ho hb hg HWU4 HR4
          go_wp2_with fail
          refine hKK.out _ _ HWU5.out.sup ?_
          clear hKK KK
          refine Go.Reg.step_w (fun KK hKK => ?_)
          have hwr := Disk.write_uni (HPD.out.below HWU5.out.bel) (Int.tmod s.g 2) A5 c5 (blockU s) (block_byte s) (by rw [HBLL.out]; intro y hy; have := stable_R (l := blockU s) (by rw [HBLL.out]; exact HR5.out) y hy; rw [HBLL.out] at this; exact this) (by have := HFW.out; omega)
          rw [← HWW.out, HBLL.out] at hwr
          have HWR := Aside0.mk hwr
          clear hwr
          go_wp2_with fail
          refine HWR.out.mono ?_
          clear HWR
          rintro y w6 ⟨rfl, hp6, hf6⟩
          have HS6 := Aside0.mk (keep_super (HPD.out.below HWU5.out.bel) hf6 HWU5.out.sup)
          have HP6 := Aside0.mk hp6
          have HF6 := Aside0.mk (Disk.Fr.trans (.of_below HWU5.out.bel) hf6)
          clear hp6 hf6 HWU5 HR5
          go_wp2_with fail
          refine hKK.out _ _ HS6.out ?_
          clear hKK KK
          refine Go.Reg.lex_qp 1 _ _ _ _ _ (by rfl) ?_; simp only [List.take_succ_cons, List.take_zero, List.drop_succ_cons, List.drop_zero]; (repeat (go_big_quiet_step (rfl))); refine wpQuiet_nil ?_
          refine Go.Reg.lex_nil ?_
          go_wp2_with fail
          go_meet
          case rel => exact ⟨rfl, HP6, HF6⟩
        case rest =>
          obtain ⟨rfl, HP6, HF6⟩ := hcut
          obtain ⟨e, he⟩ : ∃ e, e = W.2 := ⟨_, rfl⟩
          have HRW := Aside0.mk (show R = if e ≠ 0 then W else (Disk.flushF W.1, Disk.flushR W.1) by rw [he]; exact HRV.out)
          have HEW := Aside0.mk he
          rw [← he]
          clear he HRV HWW HWU3 HR3
          by_cases he0 : e ≠ 0
          · have HRZ := Aside0.mk (show R = W by rw [HRW.out, if_pos he0])
            go_wp2_with fail
            go_ret
            exact ⟨by rw [HRZ.out, ← HEW.out]; rfl, by rw [HRZ.out]; exact HP6.out, HF6.out⟩
          · have he1 : e = 0 := Classical.byContradiction he0
            subst he1
            have HRZ := Aside0.mk (show R = (Disk.flushF W.1, Disk.flushR W.1) by rw [HRW.out, if_neg he0])
            clear he0 HRW HEW
            have hfl := Disk.flush_uni HP6.out HWF.out
            obtain ⟨q, hq⟩ : ∃ q, q = Disk.flushR W.1 := ⟨_, rfl⟩
            rw [← hq] at hfl HRZ
            have HFL := Aside0.mk hfl
            clear hfl hq
            go_wp2_with fail
            refine HFL.out.mono ?_
            clear HFL
            rintro y w7 ⟨rfl, hp7, hf7⟩
            have HP7 := Aside0.mk hp7
            have HF7 := Aside0.mk (HF6.out.trans hf7)
            clear hp7 hf7 HP6 HF6
            go_wp2_with fail
            go_ret
            exact ⟨by rw [HRZ.out]; rfl, by rw [HRZ.out]; exact HP7.out, HF7.out⟩
      · have hbb : (s.b != n) = true := by simpa using hbn
        have HRV := Aside0.mk (show R = (D, 1) by rw [HR.out]; unfold writeU; rw [if_neg (fun h => hbn (h.2.trans HNE.out.symm))])
        clear hbn HR
        go_wp2_with fail
        go_ret
        exact ⟨by rw [HRV.out]; rfl, by rw [HRV.out]; exact HPD.out.below HWU3.out.bel, .of_below HWU3.out.bel⟩
  · have HRV := Aside0.mk (show R = (D, 1) by rw [HR.out]; unfold writeU; rw [if_neg (fun h => hok h.1)])
    have HC := Aside0.mk (show P = (P.1, 1) from Prod.ext rfl (by rw [HP.out, put_code, if_neg hok]))
    rw [HC.out] at HPU
    clear hok HR
    go_enter Try.func15, Try.ntmps15
    go_wp2_with fail
    rw [← HW1.out]
    refine HPU.out.mono ?_
    clear HPU HW1
    rintro r w2 ⟨v2, rfl, hr2, b2⟩
    have HWU2 := Aside0.mk (HWU.out.step b2)
    clear hr2 b2 HWU
    go_wp2_with fail
    go_ret
    exact ⟨by rw [HRV.out]; rfl, by rw [HRV.out]; exact HPD.out.below HWU2.out.bel, .of_below HWU2.out.bel⟩
end Supr
end Go.Proofs.Ytopfjmeejpamjaa
end
section
namespace Go.Proofs.Ytopfjmeejpamjaa
set_option linter.unusedVariables false
set_option linter.unusedSimpArgs false
set_option linter.ambiguousOpen false
open Go.RowKit Go.Proofs.YtopfjmeejpamjaaW.PrintWords Go.Proofs.YtopfjmeejpamjaaW.PrintLast Go.Proofs.YtopfjmeejpamjaaW.PrintMore
namespace Supr
open Go.Num Go.Crc Go.Proofs.Ytopfjmeejpamjaa.Cell Go.Proofs.Ytopfjmeejpamjaa.Sect
structure GX (w0 w : World) (sx : Nat) (x : Sec) (A : Option Addr) (c : Nat) : Prop where
  below : Below w0.heap.size w0 w
  zero : w.heap[w0.heap.size]? = some (.cells (sixU 0 0 0 0 0 0) 25 (0, 0))
  sec : w.heap[sx]? = some (.cells #[.int .i64 x.k, .int .i64 x.e, .int .i64 x.n, .int .i64 x.l, .slice A x.d.length c] 69 (0, 0))
  row : ∀ y, Below w.heap.size w y → Kd.C (Kd.int .u8) y A x.d.length x.d
theorem GX.step {w0 w w' : World} {sx : Nat} {x : Sec} {A : Option Addr} {c : Nat} (h : GX w0 w sx x A c) (f : Below w.heap.size w w') : GX w0 w' sx x A c :=
  ⟨h.below.trans (f.mono h.below.size), (f.block _ (blk_lt h.zero)).trans h.zero, (f.block _ (blk_lt h.sec)).trans h.sec, fun y hy => h.row y (below_steps f hy)⟩
theorem GX.grown {w0 w w' : World} {sx : Nat} {x : Sec} {c base : Nat} {a : Addr} {v : Value} {xs : List Int} (h : GX w0 w sx x (some a) c) (hr : Kd.R (Kd.int .i64) 3 w base (fun _ => True) v xs) (f : w.grownBy w' v.ownBlock) (hb : Below w0.heap.size w0 w') (hrow : ∀ y, Below w'.heap.size w' y → Kd.C (Kd.int .u8) y (some a) x.d.length x.d) : GX w0 w' sx x (some a) c :=
  ⟨hb, (f.block _ (blk_lt h.zero) (Kd.R_ne hr h.zero (by decide))).trans h.zero, (f.block _ (blk_lt h.sec) (Kd.R_ne hr h.sec (by decide))).trans h.sec, hrow⟩
end Supr
end Go.Proofs.Ytopfjmeejpamjaa
end
section
namespace Go.Proofs.Ytopfjmeejpamjaa
set_option linter.unusedVariables false
set_option linter.unusedSimpArgs false
set_option linter.ambiguousOpen false
open Go.RowKit Go.Proofs.YtopfjmeejpamjaaW.PrintWords Go.Proofs.YtopfjmeejpamjaaW.PrintLast Go.Proofs.YtopfjmeejpamjaaW.PrintMore
namespace Supr
open Go.Num Go.Crc Go.Proofs.Ytopfjmeejpamjaa.Cell Go.Proofs.Ytopfjmeejpamjaa.Sect
theorem RDx_other {w : World} {base sb xb : Nat} {D : Go.Disk.Dk} {vs vw : Value} (h : Disk.RDx w base sb xb D vs vw) {ub : Nat} {uc : Array Value} (hu : w.heap[ub]? = some (.cells uc 25 (0, 0))) (k : Nat) (v : Value) : Disk.RDx (w.setCell ⟨ub, k, none⟩ v) base sb xb D vs vw :=
  ⟨h.ok, h.xbase, by simpa [World.setCell] using h.slt, h.sown, h.wown, (Below.heap_setCell _ _ _ _ (tag_ne h.cells hu (by decide))).trans h.cells, Kd.R_set h.safe hu (by decide) k v, Kd.R_set h.waits hu (by decide) k v⟩
theorem RD_six {w : World} {base sb xb : Nat} {D : Go.Disk.Dk} (h : Disk.RD w base sb xb D) {ub : Nat} {a0 a1 a2 a3 a4 a5 : Value} (hu : w.heap[ub]? = some (.cells #[a0, a1, a2, a3, a4, a5] 25 (0, 0))) (v0 v1 v2 v3 v4 v5 : Value) : Disk.RD ((((((w.setCell ⟨ub, 0, none⟩ v0).setCell ⟨ub, 1, none⟩ v1).setCell ⟨ub, 2, none⟩ v2).setCell ⟨ub, 3, none⟩ v3).setCell ⟨ub, 4, none⟩ v4).setCell ⟨ub, 5, none⟩ v5) base sb xb D := by
  obtain ⟨vs, vw, h⟩ := h
  have h1 := blk_set hu 0 v0
  have h2 := blk_set h1 1 v1
  have h3 := blk_set h2 2 v2
  have h4 := blk_set h3 3 v3
  have h5 := blk_set h4 4 v4
  exact ⟨vs, vw, RDx_other (RDx_other (RDx_other (RDx_other (RDx_other (RDx_other h hu 0 v0) h1 1 v1) h2 2 v2) h3 3 v3) h4 4 v4) h5 5 v5⟩
theorem rd_tag {w : World} {base sb xb : Nat} {D : Go.Disk.Dk} (h : Disk.RD w base sb xb D) : ∃ cs, w.heap[xb]? = some (.cells cs 103 (0, 0)) := by
  obtain ⟨vs, vw, h⟩ := h
  exact ⟨_, h.cells⟩
theorem keep_superX {w w' : World} {base sb xb ub : Nat} {D : Go.Disk.Dk} {uc : Array Value} (h : Disk.RD w base sb xb D) (f : Disk.FX base xb w w') (hu : w.heap[ub]? = some (.cells uc 25 (0, 0))) : w'.heap[ub]? = some (.cells uc 25 (0, 0)) := by
  obtain ⟨_, h1⟩ := rd_tag h
  exact (f.block ub (blk_lt hu) (fun e => tag_ne hu h1 (by decide) e) (fun c t fz hc e => by
    rw [hu] at hc
    cases hc
    rcases e.2 with e | e <;> exact absurd e (by decide))).trans hu
structure RX (w0 w : World) (base sb xb bb : Nat) (D : Go.Disk.Dk) (best : SU) : Prop where
  fx : Disk.FX base xb w0 w
  zero : w.heap[w0.heap.size]? = some (.cells (sixU 0 0 0 0 0 0) 25 (0, 0))
  best : w.heap[bb]? = some (.cells (sixU best.g best.b best.l best.p best.q best.o) 25 (0, 0))
  rd : Disk.RD w base sb xb D
  far : w0.heap.size < bb
theorem RX.step {w0 w w' : World} {base sb xb bb : Nat} {D : Go.Disk.Dk} {best : SU} (h : RX w0 w base sb xb bb D best) (f : Below w.heap.size w w') : RX w0 w' base sb xb bb D best :=
  ⟨h.fx.trans (.of_below f), (f.block _ (blk_lt h.zero)).trans h.zero, (f.block _ (blk_lt h.best)).trans h.best, h.rd.below f, h.far⟩
theorem RX.read {w0 w w' : World} {base sb xb bb : Nat} {D D' : Go.Disk.Dk} {best : SU} (h : RX w0 w base sb xb bb D best) (f : Disk.FX base xb w w') (p : Disk.RD w' base sb xb D') : RX w0 w' base sb xb bb D' best :=
  ⟨h.fx.trans f, keep_superX h.rd f h.zero, keep_superX h.rd f h.best, p, h.far⟩
theorem RX.set {w0 w : World} {base sb xb bb : Nat} {D : Go.Disk.Dk} {best : SU} (h : RX w0 w base sb xb bb D best) (s : SU) : RX w0 ((((((w.setCell ⟨bb, 0, none⟩ (.int .i64 s.g)).setCell ⟨bb, 1, none⟩ (.int .i64 s.b)).setCell ⟨bb, 2, none⟩ (.int .i64 s.l)).setCell ⟨bb, 3, none⟩ (.int .i64 s.p)).setCell ⟨bb, 4, none⟩ (.int .i64 s.q)).setCell ⟨bb, 5, none⟩ (.int .i64 s.o)) base sb xb bb D s :=
  ⟨Fr_then h.fx (six_below (Below.refl _ w) (Nat.le_of_lt h.far) _ _ _ _ _ _), (six_but _ _ _ _ _ _ _ (Nat.ne_of_lt h.far)).trans h.zero, six_set h.best _ _ _ _ _ _, RD_six h.rd h.best _ _ _ _ _ _, h.far⟩
end Supr
end Go.Proofs.Ytopfjmeejpamjaa
end
section
namespace Go.Proofs.Ytopfjmeejpamjaa
set_option linter.unusedVariables false
set_option linter.unusedSimpArgs false
set_option linter.ambiguousOpen false
open Go.RowKit Go.Proofs.YtopfjmeejpamjaaW.PrintWords Go.Proofs.YtopfjmeejpamjaaW.PrintLast Go.Proofs.YtopfjmeejpamjaaW.PrintMore
namespace Supr
open Go.Num Go.Crc Go.Proofs.Ytopfjmeejpamjaa.Cell Go.Proofs.Ytopfjmeejpamjaa.Sect
def s7 : SU := ⟨7, 16, 3, 9, 40, 7⟩
def s17 : SU := ⟨8, 17, 8, 0, 0, 0⟩
def s9 : SU := ⟨8, 16, 9, 0, 0, 0⟩
abbrev D0 : Go.Disk.Dk := Go.Disk.blankD 16
def D1 : Go.Disk.Dk := readDk D0
def D2 : Go.Disk.Dk := (writeU D1 s7).1
def D3 : Go.Disk.Dk := readDk D2
def D4 : Go.Disk.Dk := Disk.readF D3 1
def one256 : List Int := Disk.blockOf [1]
def D5 : Go.Disk.Dk := (Disk.writeD D4 1 one256).1
theorem ex0 : readU D0 = (zeroU, 6) := by kernel_rfl
theorem ex1 : (writeU D1 s7).2 = 0 := by kernel_rfl
theorem ex2 : readU D2 = (s7, 0) := by kernel_rfl
theorem ex3 : Go.Disk.ready D3 1 = 0 := by kernel_rfl
theorem ex4 : getU ((Disk.readV D3 1).take 64) = (s7, 0) := by kernel_rfl
theorem ex5 : writeU D4 s17 = (D4, 1) := by kernel_rfl
theorem ex6 : writeU D4 s9 = (D4, 1) := by kernel_rfl
theorem ex7 : readU D5 = (zeroU, 13) := by kernel_rfl
theorem ex8 : s7.ok = true := by kernel_rfl
theorem ex9 : (⟨0, 0, 0, 0, 0, 0⟩ : SU).ok = false := by kernel_rfl
theorem ex10 : D0.waits.length = 0 ∧ D1.waits.length = 0 ∧ D2.waits.length = 0 ∧ D3.waits.length = 0 ∧ D4.waits.length = 0 ∧ D5.waits.length = 1 ∧ (Disk.readV D3 1).length = 256 := by refine ⟨?_, ?_, ?_, ?_, ?_, ?_, ?_⟩ <;> kernel_rfl
theorem exB : ∀ y ∈ Disk.readV D3 1, 0 ≤ y ∧ y ≤ 255 := by
  have : (Disk.readV D3 1).all (fun y => decide (0 ≤ y ∧ y ≤ 255)) = true := by kernel_rfl
  rw [List.all_eq_true] at this
  exact fun y hy => of_decide_eq_true (this y hy)
theorem exC : ∀ y ∈ one256, 0 ≤ y ∧ y ≤ 255 := by
  have : one256.all (fun y => decide (0 ≤ y ∧ y ≤ 255)) = true := by kernel_rfl
  rw [List.all_eq_true] at this
  exact fun y hy => of_decide_eq_true (this y hy)
theorem exL : one256.length = 256 := by kernel_rfl
end Supr
end Go.Proofs.Ytopfjmeejpamjaa
end
section
namespace Go.Proofs.Ytopfjmeejpamjaa
set_option linter.unusedVariables false
set_option linter.unusedSimpArgs false
set_option linter.ambiguousOpen false
open Go.RowKit Go.Proofs.YtopfjmeejpamjaaW.PrintWords Go.Proofs.YtopfjmeejpamjaaW.PrintLast Go.Proofs.YtopfjmeejpamjaaW.PrintMore
namespace Supr
open Go.Num Go.Crc Go.Proofs.Ytopfjmeejpamjaa.Cell Go.Proofs.Ytopfjmeejpamjaa.Sect
def eqU (s t : SU) : Bool := s.g == t.g && (s.b == t.b && (s.l == t.l && (s.p == t.p && (s.q == t.q && s.o == t.o))))
theorem eqU_iff (s t : SU) : eqU s t = true ↔ s = t := by
  obtain ⟨a, b, c, d, e, f⟩ := s
  obtain ⟨a', b', c', d', e', f'⟩ := t
  unfold eqU
  simp
theorem eq_super (s t : SU) (w : World) : (Op.equalIn 10000 25 s.v t.v).run Try.prog w = .ok (eqU s t) w := by
  have u3 := Try.underlying3
  have a3 := Try.isAgg3
  have z3 := Try.sizeOf3
  have u4 := Try.underlying23
  have a4 := Try.isAgg23
  have z4 := Try.sizeOf23
  rw [show (10000 : Nat) = 9999 + 1 from rfl, Op.equalIn]
  simp only [Sem.run_bind, run_underlying Try.underlying25, Result.andThen_ok]
  go_simp
  unfold eqU
  by_cases h1 : s.g = t.g <;> by_cases h2 : s.b = t.b <;> by_cases h3 : s.l = t.l <;> by_cases h4 : s.p = t.p <;> by_cases h5 : s.q = t.q <;> by_cases h6 : s.o = t.o <;> simp [h1, h2, h3, h4, h5, h6]
theorem eq_self (s : SU) (w : World) : (Op.equalIn 10000 25 s.v s.v).run Try.prog w = .ok true w := by
  rw [eq_super, (eqU_iff s s).2 rfl]
set_option maxHeartbeats 16000000 in
set_option maxRecDepth 100000 in
theorem sread_nil {w : World} : Calls Try.prog 18 #[.pointer none] w fun r w' => r = .returned (.tuple #[zeroU.v, .int .i64 8]) ∧ Below w.heap.size w w' := by
  obtain ⟨w1, hw1⟩ : ∃ w1, w1 = (w.alloc (.cells (sixU 0 0 0 0 0 0) 25)).alloc (.cells (sixU 0 0 0 0 0 0) 25) := ⟨_, rfl⟩
  have HB1 := Aside0.mk (show Below w.heap.size w w1 by rw [hw1]; exact ((Below.refl _ _).alloc (Nat.le_refl _) _).alloc (by simp) _)
  have HZ := Aside0.mk (show w1.heap[w.heap.size]? = some (.cells (sixU 0 0 0 0 0 0) 25 (0, 0)) by
    rw [hw1, Below.heap_alloc _ _ _ (by simp)]
    exact heap_alloc_new w _)
  have HW1 := Aside0.mk hw1
  clear hw1
  go_enter Try.func18, Try.ntmps18
  go_wp2_with fail
  rw [← HW1.out]
  go_loopg [10, 5] 2 (fun gk v10 v5 wr => gk = 2 ∧ v10 = .int .i64 0 ∧ v5 = .bool true ∧ wr = w1)
  case atStart => exact ⟨rfl, rfl, rfl, rfl⟩
  case round =>
    obtain ⟨rfl, rfl, rfl, rfl⟩ := hrel
    go_wp2_with fail
    refine (Disk.read_nil _).mono ?_
    rintro r w2 ⟨rfl, hw2⟩
    obtain rfl : w2 = wr := hw2
    obtain ⟨⟨p0, p1, p2, p3, p4, p5⟩, q0, q1, q2, q3, q4, q5⟩ := cells6 HZ.out
    go_wp2_with fail
    refine bodyPost_ret (results_ct rfl _ _ w.heap.size 25 (sixU 0 0 0 0 0 0) (0, 0) _ rfl (six_set HZ.out _ _ _ _ _ _) Try.underlying25 rfl (by kernel_rfl)) rfl ?_
    exact ⟨rfl, six_below HB1.out (Nat.le_refl _) _ _ _ _ _ _⟩
structure AW (w0 w : World) (db sb : Nat) (D : Go.Disk.Dk) : Prop where
  bel : Below w0.heap.size w0 w
  pd : Disk.PD w w0.heap.size db sb D
  ldb : w0.heap.size ≤ db
  lsb : w0.heap.size ≤ sb
theorem AW.step {w0 w w' : World} {db sb : Nat} {D : Go.Disk.Dk} (h : AW w0 w db sb D) (b : Below w.heap.size w w') : AW w0 w' db sb D :=
  ⟨h.bel.trans (b.mono h.bel.size), h.pd.below b, h.ldb, h.lsb⟩
theorem AW.disk {w0 w w' : World} {db sb : Nat} {D D' : Go.Disk.Dk} (h : AW w0 w db sb D) (f : Disk.FP w0.heap.size db sb w w') (p : Disk.PD w' w0.heap.size db sb D') : AW w0 w' db sb D' :=
  ⟨h.bel.trans (Disk.FP.below f h.ldb h.lsb h.bel.size), p, h.ldb, h.lsb⟩
abbrev Sup (w : World) (b : Nat) (s : SU) : Prop := w.heap[b]? = some (.cells (sixU s.g s.b s.l s.p s.q s.o) 25 (0, 0))
theorem Sup.step {w w' : World} {b : Nat} {s : SU} (h : Sup w b s) (f : Below w.heap.size w w') : Sup w' b s := (f.block _ (blk_lt h)).trans h
theorem one_row {w : World} {b : Nat} {x : Int} (h : w.heap[b]? = some (.cells #[.int .u8 x] 5 (0, 0))) : Kd.C (Kd.int .u8) w (some ⟨b, 0, none⟩) [x].length [x] := by
  have hb : w.heap[b]? = some (.cells (([x] : List Int).map (Value.int .u8) ++ []).toArray 5 (0, 0)) := h
  exact row_at (row_of (base := 0) (ok := fun _ => True) hb (Nat.zero_le _) trivial rfl (by simp))
set_option maxHeartbeats 32000000 in
set_option maxRecDepth 100000 in
theorem awake_any (w : World) : Calls Try.prog 11 #[] w fun e w' => e = .returned (.bool true) ∧ Below w.heap.size w w' := by
  go_enter Try.func11, Try.ntmps11
  go_wp2_with fail
  refine (Disk.blank_yes 16 w (by omega)).mono ?_
  rintro e w1 ⟨db, sb, rfl, p1, b1⟩
  have HA := Aside0.mk (show AW w w1 db sb D0 from ⟨b1, p1, by obtain ⟨_, _, _, h⟩ := p1; exact h.dbase, by obtain ⟨_, _, _, h⟩ := p1; exact h.sbase⟩)
  clear p1 b1
  go_wp2_with fail
  have hr := sread_any HA.out.pd (by rw [ex10.1]; decide)
  rw [ex0] at hr
  refine hr.mono ?_
  clear hr
  rintro e w2 ⟨rfl, p2, f2⟩
  replace HA := Aside0.mk (show AW w w2 db sb D1 from HA.out.disk f2 p2)
  clear p2 f2
  go_wp2_with fail
  obtain ⟨w4, hw4⟩ : ∃ z, z = (w2.alloc (.cells #[.int .i64 zeroU.g, .int .i64 zeroU.b, .int .i64 zeroU.l, .int .i64 zeroU.p, .int .i64 zeroU.q, .int .i64 zeroU.o] 25)).alloc (.cells (sixU 7 16 3 9 40 7) 25) := ⟨_, rfl⟩
  have b4 : Below w2.heap.size w2 w4 := by rw [hw4]; exact ((Below.refl _ _).alloc (Nat.le_refl _) _).alloc (by simp) _
  have HS := Aside0.mk (show Sup w4 (w2.heap.size + 1) s7 by
    rw [hw4]
    have := heap_alloc_new (w2.alloc (.cells #[.int .i64 zeroU.g, .int .i64 zeroU.b, .int .i64 zeroU.l, .int .i64 zeroU.p, .int .i64 zeroU.q, .int .i64 zeroU.o] 25)) (.cells (sixU 7 16 3 9 40 7) 25)
    rw [World.size_alloc] at this
    exact this)
  replace HA := Aside0.mk (HA.out.step b4)
  rw [← hw4]
  obtain ⟨us, hus⟩ : ∃ us, us = w2.heap.size + 1 := ⟨_, rfl⟩
  rw [← hus] at HS ⊢
  clear hw4 b4 hus
  have hr := swrite_any HA.out.pd s7 (by rw [ex10.2.1]; decide)
  rw [ex1] at hr
  refine hr.mono ?_
  clear hr
  rintro e w5 ⟨rfl, p5, f5⟩
  replace HS := Aside0.mk (show Sup w5 us s7 from keep_super HA.out.pd f5 HS.out)
  replace HA := Aside0.mk (show AW w w5 db sb D2 from HA.out.disk f5 p5)
  clear p5 f5
  go_wp2_with fail
  have hr := sread_any HA.out.pd (by rw [ex10.2.2.1]; decide)
  rw [ex2] at hr
  refine hr.mono ?_
  clear hr
  rintro e w6 ⟨rfl, p6, f6⟩
  replace HS := Aside0.mk (show Sup w6 us s7 from keep_super HA.out.pd f6 HS.out)
  replace HA := Aside0.mk (show AW w w6 db sb D3 from HA.out.disk f6 p6)
  clear p6 f6
  go_wp2_with fail
  obtain ⟨w7, hw7⟩ : ∃ z, z = w6.alloc (.cells #[.int .i64 s7.g, .int .i64 s7.b, .int .i64 s7.l, .int .i64 s7.p, .int .i64 s7.q, .int .i64 s7.o] 25) := ⟨_, rfl⟩
  have b7 : Below w6.heap.size w6 w7 := by rw [hw7]; exact (Below.refl _ _).alloc (Nat.le_refl _) _
  have HT := Aside0.mk (show Sup w7 w6.heap.size s7 by rw [hw7]; exact heap_alloc_new w6 _)
  replace HA := Aside0.mk (HA.out.step b7)
  replace HS := Aside0.mk (HS.out.step b7)
  rw [← hw7]
  obtain ⟨ut, hut⟩ : ∃ ut, ut = w6.heap.size := ⟨_, rfl⟩
  rw [← hut] at HT ⊢
  clear hw7 b7 hut
  have hr := Disk.read_uni HA.out.pd 1 (by rw [ex10.2.2.2.1]; decide)
  rw [ex3] at hr
  refine hr.mono ?_
  clear hr
  rintro e w8 ⟨v8, rfl, hr8, p8, f8⟩
  obtain ⟨A8, c8, rfl⟩ := Kd.R_slice hr8
  have HC8 := Aside0.mk (Kd.R_reads' hr8)
  replace HS := Aside0.mk (show Sup w8 us s7 from keep_super HA.out.pd f8 HS.out)
  replace HT := Aside0.mk (show Sup w8 ut s7 from keep_super HA.out.pd f8 HT.out)
  replace HA := Aside0.mk (show AW w w8 db sb D4 from HA.out.disk f8 p8)
  clear p8 f8 hr8
  rw [ex10.2.2.2.2.2.2] at HC8 ⊢
  obtain ⟨a8, rfl⟩ : ∃ a, A8 = some a := by obtain ⟨a, ha, _⟩ := HC8.out.2.2.2.2 (by decide); exact ⟨a, ha⟩
  have hc64 : 64 ≤ c8 := by have := HC8.out.2.1; omega
  go_wp2_with fail
  have hl64 : ((Disk.readV D3 1).take 64).length = 64 := by rw [List.length_take, ex10.2.2.2.2.2.2]; decide
  have hg := sget_any (w := w8) (some a8) c8 ((Disk.readV D3 1).take 64) (by rw [hl64]; have := HC8.out.2.2; rw [← ex10.2.2.2.2.2.2] at this; exact head_C this 64 (by rw [ex10.2.2.2.2.2.2]; decide)) (fun y hy => exB y (List.mem_of_mem_take hy)) (by rw [hl64]; exact hc64) (by rw [hl64]; decide)
  rw [hl64, ex4] at hg
  refine hg.mono ?_
  clear hg hl64 hc64 HC8
  rintro e w9 ⟨rfl, b9⟩
  replace HA := Aside0.mk (HA.out.step b9)
  replace HS := Aside0.mk (HS.out.step b9)
  replace HT := Aside0.mk (HT.out.step b9)
  clear b9
  go_wp2_with fail
  obtain ⟨w10, hw10⟩ : ∃ z, z = w9.alloc (.cells #[.int .i64 s7.g, .int .i64 s7.b, .int .i64 s7.l, .int .i64 s7.p, .int .i64 s7.q, .int .i64 s7.o] 25) := ⟨_, rfl⟩
  have b10 : Below w9.heap.size w9 w10 := by rw [hw10]; exact (Below.refl _ _).alloc (Nat.le_refl _) _
  have HX := Aside0.mk (show Sup w10 w9.heap.size s7 by rw [hw10]; exact heap_alloc_new w9 _)
  replace HA := Aside0.mk (HA.out.step b10)
  replace HS := Aside0.mk (HS.out.step b10)
  replace HT := Aside0.mk (HT.out.step b10)
  rw [← hw10]
  obtain ⟨ux, hux⟩ : ∃ ux, ux = w9.heap.size := ⟨_, rfl⟩
  rw [← hux] at HX ⊢
  clear hw10 b10 hux
  have hr := swrite_any HA.out.pd s17 (by rw [ex10.2.2.2.2.1]; decide)
  rw [ex5] at hr
  refine hr.mono ?_
  clear hr
  rintro e w11 ⟨rfl, p11, f11⟩
  replace HS := Aside0.mk (show Sup w11 us s7 from keep_super HA.out.pd f11 HS.out)
  replace HT := Aside0.mk (show Sup w11 ut s7 from keep_super HA.out.pd f11 HT.out)
  replace HX := Aside0.mk (show Sup w11 ux s7 from keep_super HA.out.pd f11 HX.out)
  replace HA := Aside0.mk (show AW w w11 db sb D4 from HA.out.disk f11 p11)
  clear p11 f11
  go_wp2_with fail
  have hr := swrite_any HA.out.pd s9 (by rw [ex10.2.2.2.2.1]; decide)
  rw [ex6] at hr
  refine hr.mono ?_
  clear hr
  rintro e w12 ⟨rfl, p12, f12⟩
  replace HS := Aside0.mk (show Sup w12 us s7 from keep_super HA.out.pd f12 HS.out)
  replace HT := Aside0.mk (show Sup w12 ut s7 from keep_super HA.out.pd f12 HT.out)
  replace HX := Aside0.mk (show Sup w12 ux s7 from keep_super HA.out.pd f12 HX.out)
  replace HA := Aside0.mk (show AW w w12 db sb D4 from HA.out.disk f12 p12)
  clear p12 f12
  go_wp2_with fail
  refine sread_nil.mono ?_
  rintro e w13 ⟨rfl, b13⟩
  replace HA := Aside0.mk (HA.out.step b13)
  replace HS := Aside0.mk (HS.out.step b13)
  replace HT := Aside0.mk (HT.out.step b13)
  replace HX := Aside0.mk (HX.out.step b13)
  clear b13
  go_wp2_with fail
  obtain ⟨w14, hw14⟩ : ∃ z, z = (w13.alloc (.cells #[.int .i64 zeroU.g, .int .i64 zeroU.b, .int .i64 zeroU.l, .int .i64 zeroU.p, .int .i64 zeroU.q, .int .i64 zeroU.o] 25)).alloc (.cells #[.int .u8 1] 5) := ⟨_, rfl⟩
  have b14 : Below w13.heap.size w13 w14 := by rw [hw14]; exact ((Below.refl _ _).alloc (Nat.le_refl _) _).alloc (by simp) _
  have hq : w14.heap[w13.heap.size + 1]? = some (.cells #[.int .u8 1] 5 (0, 0)) := by
    rw [hw14]
    have := heap_alloc_new (w13.alloc (.cells #[.int .i64 zeroU.g, .int .i64 zeroU.b, .int .i64 zeroU.l, .int .i64 zeroU.p, .int .i64 zeroU.q, .int .i64 zeroU.o] 25)) (.cells #[.int .u8 1] 5)
    rw [World.size_alloc] at this
    exact this
  rw [← hw14]
  clear hw14
  replace HA := Aside0.mk (HA.out.step b14)
  replace HS := Aside0.mk (HS.out.step b14)
  replace HT := Aside0.mk (HT.out.step b14)
  replace HX := Aside0.mk (HX.out.step b14)
  clear b14
  refine (Disk.Block_any _ 1 [1] (one_row hq) (Nat.le_refl _)).mono ?_
  rintro e w15 ⟨a15, c15, rfl, hc15, hr15, b15⟩
  have HR := Aside0.mk hr15
  clear hq hr15
  replace HA := Aside0.mk (HA.out.step b15)
  replace HS := Aside0.mk (HS.out.step b15)
  replace HT := Aside0.mk (HT.out.step b15)
  replace HX := Aside0.mk (HX.out.step b15)
  clear b15
  go_wp2_with fail
  have hr := Disk.write_uni HA.out.pd 1 (some a15) c15 one256 exC (fun y hy => by have := (Kd.R_reads' (Kd.R_below HR.out hy)).2.2; exact this) (by rw [ex10.2.2.2.2.1]; decide)
  rw [show one256.length = 256 from exL] at hr
  refine hr.mono ?_
  clear hr
  rintro e w16 ⟨rfl, p16, f16⟩
  replace HS := Aside0.mk (show Sup w16 us s7 from keep_super HA.out.pd f16 HS.out)
  replace HT := Aside0.mk (show Sup w16 ut s7 from keep_super HA.out.pd f16 HT.out)
  replace HX := Aside0.mk (show Sup w16 ux s7 from keep_super HA.out.pd f16 HX.out)
  replace HA := Aside0.mk (show AW w w16 db sb D5 from HA.out.disk f16 p16)
  clear p16 f16 HR
  go_wp2_with fail
  have hr := sread_any HA.out.pd (by rw [ex10.2.2.2.2.2.1]; decide)
  rw [ex7] at hr
  refine hr.mono ?_
  clear hr
  rintro e w17 ⟨rfl, p17, f17⟩
  replace HS := Aside0.mk (show Sup w17 us s7 from keep_super HA.out.pd f17 HS.out)
  replace HT := Aside0.mk (show Sup w17 ut s7 from keep_super HA.out.pd f17 HT.out)
  replace HX := Aside0.mk (show Sup w17 ux s7 from keep_super HA.out.pd f17 HX.out)
  have HB := Aside0.mk (HA.out.disk f17 p17).bel
  clear p17 f17 HA
  go_upto_region 13 with (fail)
  obtain ⟨w18, hw18⟩ : ∃ z, z = w17.alloc (.cells #[.int .i64 zeroU.g, .int .i64 zeroU.b, .int .i64 zeroU.l, .int .i64 zeroU.p, .int .i64 zeroU.q, .int .i64 zeroU.o] 25) := ⟨_, rfl⟩
  have b18 : Below w17.heap.size w17 w18 := by rw [hw18]; exact (Below.refl _ _).alloc (Nat.le_refl _) _
  replace HB := Aside0.mk (HB.out.trans (b18.mono HB.out.size))
  replace HS := Aside0.mk (HS.out.step b18)
  replace HT := Aside0.mk (HT.out.step b18)
  replace HX := Aside0.mk (HX.out.step b18)
  rw [← hw18]
  clear hw18 b18
  have hes := eq_self s7
  obtain ⟨⟨a10, a11, a12, a13, a14, a15⟩, _⟩ := cells6 HS.out
  obtain ⟨⟨c10, c11, c12, c13, c14, c15⟩, _⟩ := cells6 HT.out
  obtain ⟨⟨d10, d11, d12, d13, d14, d15⟩, _⟩ := cells6 HX.out
  go_wp2_with fail
  clear a10 a11 a12 a13 a14 a15 c10 c11 c12 c13 c14 c15 d10 d11 d12 d13 d14 d15
  refine (swrite_nil s7).mono ?_
  rintro e w19 ⟨rfl, b19⟩
  replace HB := Aside0.mk (HB.out.trans (b19.mono HB.out.size))
  replace HS := Aside0.mk (HS.out.step b19)
  replace HT := Aside0.mk (HT.out.step b19)
  replace HX := Aside0.mk (HX.out.step b19)
  clear b19
  obtain ⟨⟨a20, a21, a22, a23, a24, a25⟩, _⟩ := cells6 HS.out
  obtain ⟨⟨c20, c21, c22, c23, c24, c25⟩, _⟩ := cells6 HT.out
  obtain ⟨⟨d20, d21, d22, d23, d24, d25⟩, _⟩ := cells6 HX.out
  go_wp2_with fail
  clear a20 a21 a22 a23 a24 a25 c20 c21 c22 c23 c24 c25 d20 d21 d22 d23 d24 d25
  have hck := check_any (w := w19) s7.g s7.b s7.l s7.p s7.q s7.o
  rw [show supOk s7.g s7.b s7.l s7.p s7.q s7.o = true from ex8] at hck
  refine hck.mono ?_
  clear hck
  rintro e w20 ⟨rfl, b20⟩
  replace HB := Aside0.mk (HB.out.trans (b20.mono HB.out.size))
  replace HS := Aside0.mk (HS.out.step b20)
  replace HT := Aside0.mk (HT.out.step b20)
  replace HX := Aside0.mk (HX.out.step b20)
  clear b20
  go_wp2_with fail
  have hck := check_any (w := w20) 0 0 0 0 0 0
  rw [show supOk 0 0 0 0 0 0 = false from ex9] at hck
  refine hck.mono ?_
  clear hck
  rintro e w21 ⟨rfl, b21⟩
  replace HB := Aside0.mk (HB.out.trans (b21.mono HB.out.size))
  replace HS := Aside0.mk (HS.out.step b21)
  replace HT := Aside0.mk (HT.out.step b21)
  replace HX := Aside0.mk (HX.out.step b21)
  clear b21
  go_wp2_with fail
  go_ret
  exact ⟨rfl, HB.out⟩
end Supr
end Go.Proofs.Ytopfjmeejpamjaa
end
section
namespace Go.Proofs.Ytopfjmeejpamjaa
set_option linter.unusedVariables false
set_option linter.unusedSimpArgs false
set_option linter.ambiguousOpen false
open Go.RowKit Go.Proofs.YtopfjmeejpamjaaW.PrintWords Go.Proofs.YtopfjmeejpamjaaW.PrintLast Go.Proofs.YtopfjmeejpamjaaW.PrintMore
namespace Supr
open Go.Num Go.Crc Go.Proofs.Ytopfjmeejpamjaa.Cell Go.Proofs.Ytopfjmeejpamjaa.Sect
def read2 (n : Nat) (V0 V1 : List Int) : SU × Int :=
  (better n (better n zeroU 0 (getU (V0.take 64))) 1 (getU (V1.take 64)), if 0 < (better n (better n zeroU 0 (getU (V0.take 64))) 1 (getU (V1.take 64))).g then 0 else if zerosB V0 && zerosB V1 then 6 else 13)
theorem readU_two (D : Go.Disk.Dk) (hok : Go.Disk.Ok D) (hr : Go.Disk.ready D 0 = 0) : readU D = read2 D.safe.length (Disk.nowD D 0) (Disk.nowD D 1) := by
  have r1 : Go.Disk.ready D 1 = 0 := (ready_two D hok 1 (by decide)).trans hr
  have r1' : Go.Disk.ready (Disk.readF D 0) 1 = 0 := by rw [ready_same (readF_same D 0).1 (readF_same D 0).2.1]; exact r1
  have n1 : Disk.nowD (Disk.readF D 0) 1 = Disk.nowD D 1 := by
    unfold Disk.nowD
    rw [(readF_same D 0).1, (readF_same D 0).2.2]
  have v0 : Disk.readV D 0 = Disk.nowD D 0 := by unfold Disk.readV; rw [if_pos hr]
  have v1 : Disk.readV (Disk.readF D 0) 1 = Disk.nowD D 1 := by unfold Disk.readV; rw [if_pos r1', n1]
  unfold readU
  rw [if_neg (by rw [hr]; decide)]
  have e1 : scanU D 1 = (Disk.readF D 0, better D.safe.length zeroU 0 (getU ((Disk.nowD D 0).take 64)), zerosB (Disk.nowD D 0)) := by
    show (Disk.readF D ((0 : Nat) : Int), better D.safe.length zeroU ((0 : Nat) : Int) (getU ((Disk.readV D ((0 : Nat) : Int)).take 64)), true && zerosB (Disk.readV D ((0 : Nat) : Int))) = _
    rw [show ((0 : Nat) : Int) = 0 from rfl, v0, Bool.true_and]
  have e2 : scanU D 2 = (Disk.readF (Disk.readF D 0) 1, better D.safe.length (better D.safe.length zeroU 0 (getU ((Disk.nowD D 0).take 64))) 1 (getU ((Disk.nowD D 1).take 64)), zerosB (Disk.nowD D 0) && zerosB (Disk.nowD D 1)) := by
    show (Disk.readF (scanU D 1).1 ((1 : Nat) : Int), better D.safe.length (scanU D 1).2.1 ((1 : Nat) : Int) (getU ((Disk.readV (scanU D 1).1 ((1 : Nat) : Int)).take 64)), (scanU D 1).2.2 && zerosB (Disk.readV (scanU D 1).1 ((1 : Nat) : Int))) = _
    rw [e1, show ((1 : Nat) : Int) = 1 from rfl]
    simp only []
    rw [v1]
  rw [e2]
  rfl
def Holds (n : Nat) (k : Int) (V : List Int) (s : SU) : Prop := getU (V.take 64) = (s, 0) ∧ s.b = n ∧ Int.tmod s.g 2 = k ∧ 1 ≤ s.g
theorem better_yes {n : Nat} {k : Int} {V : List Int} {s best : SU} (h : Holds n k V s) (hb : best.g < s.g) : better n best k (getU (V.take 64)) = s := by
  unfold better
  rw [h.1, if_pos ⟨rfl, h.2.1, h.2.2.1, hb⟩]
theorem better_old {n : Nat} {k : Int} {V : List Int} {s best : SU} (h : Holds n k V s) (hb : s.g ≤ best.g) : better n best k (getU (V.take 64)) = best := by
  unfold better
  rw [h.1, if_neg (fun q => by have := q.2.2.2; simp only [] at this; omega)]
theorem better_no {n : Nat} {k : Int} {V : List Int} {best : SU} (h : (getU (V.take 64)).2 ≠ 0) : better n best k (getU (V.take 64)) = best := by
  unfold better
  rw [if_neg (fun q => h q.1)]
theorem read_one {n : Nat} {V0 V1 : List Int} {s : SU} (h : (Holds n 0 V0 s ∧ (getU (V1.take 64)).2 ≠ 0) ∨ (Holds n 1 V1 s ∧ (getU (V0.take 64)).2 ≠ 0)) : read2 n V0 V1 = (s, 0) := by
  have hz : zeroU.g = 0 := rfl
  rcases h with ⟨h, k⟩ | ⟨h, k⟩
  · have e0 : better n zeroU 0 (getU (V0.take 64)) = s := better_yes h (by have := h.2.2.2; omega)
    unfold read2
    rw [e0, better_no k, if_pos (by have := h.2.2.2; omega)]
  · have e1 : better n zeroU 1 (getU (V1.take 64)) = s := better_yes h (by have := h.2.2.2; omega)
    unfold read2
    rw [better_no k, e1, if_pos (by have := h.2.2.2; omega)]
theorem read_both {n : Nat} {V0 V1 : List Int} {s t : SU} (h0 : Holds n 0 V0 s) (h1 : Holds n 1 V1 t) : read2 n V0 V1 = (if s.g < t.g then t else s, 0) := by
  have hz : zeroU.g = 0 := rfl
  have e0 : better n zeroU 0 (getU (V0.take 64)) = s := better_yes h0 (by have := h0.2.2.2; omega)
  unfold read2
  rw [e0]
  by_cases h : s.g < t.g
  · rw [better_yes h1 h, if_pos h, if_pos (by have := h1.2.2.2; omega)]
  · rw [better_old h1 (by omega), if_neg h, if_pos (by have := h0.2.2.2; omega)]
theorem block_take {s : SU} (h : s.ok = true) : (blockU s).take 64 = s.put.1 := by
  unfold blockU
  exact List.take_left' (put_yes_len h)
theorem holds_block {n : Nat} {s : SU} (h : s.ok = true) (hb : s.b = n) : Holds n (Int.tmod s.g 2) (blockU s) s := by
  refine ⟨by rw [block_take h]; exact getU_put s h, hb, rfl, ?_⟩
  have := supOk_range h
  omega
theorem zero_slot {V : List Int} (h : V.take 64 = List.replicate 64 0) : (getU (V.take 64)).2 ≠ 0 := by
  rw [h]
  have : (getU (List.replicate 64 0)).2 = 12 := by kernel_rfl
  rw [this]
  decide
theorem torn_slot (on : Nat → Bool) {s : SU} (h : s.ok = true) : (Go.Disk.tornTo on (List.replicate 256 0) (blockU s) 4).take 64 = List.replicate 64 0 ∨ (Go.Disk.tornTo on (List.replicate 256 0) (blockU s) 4).take 64 = s.put.1 := by
  have hl : (blockU s).length = 256 := block_len h
  have step : ∀ k, 1 ≤ k → k ≤ 3 → (Go.Disk.tornTo on (List.replicate 256 0) (blockU s) (k + 1)).take 64 = (Go.Disk.tornTo on (List.replicate 256 0) (blockU s) k).take 64 := by
    intro k h1 h3
    have hk := Go.Disk.tornTo_len on (List.replicate 256 0) (blockU s) List.length_replicate hl k (by omega)
    show (if on k then (Go.Disk.tornTo on (List.replicate 256 0) (blockU s) k).take (64 * k) ++ (((blockU s).drop (64 * k)).take 64 ++ (Go.Disk.tornTo on (List.replicate 256 0) (blockU s) k).drop (64 * k + 64)) else Go.Disk.tornTo on (List.replicate 256 0) (blockU s) k).take 64 = _
    split
    · rw [List.take_append_of_le_length (by rw [List.length_take, hk]; omega), List.take_take, Nat.min_eq_left (by omega)]
    · rfl
  rw [step 3 (by decide) (by decide), step 2 (by decide) (by decide), step 1 (by decide) (by decide)]
  show (if on 0 then (List.replicate 256 0).take (64 * 0) ++ (((blockU s).drop (64 * 0)).take 64 ++ (List.replicate 256 0).drop (64 * 0 + 64)) else List.replicate 256 0).take 64 = _ ∨ (if on 0 then (List.replicate 256 0).take (64 * 0) ++ (((blockU s).drop (64 * 0)).take 64 ++ (List.replicate 256 0).drop (64 * 0 + 64)) else List.replicate 256 0).take 64 = _
  cases on 0 with
  | false =>
    left
    show (List.replicate 256 (0 : Int)).take 64 = _
    rw [List.take_replicate]
    rfl
  | true =>
    right
    simp only [if_true, Nat.mul_zero, List.take_zero, List.nil_append, List.drop_zero]
    rw [List.take_left' (by rw [List.length_take, hl]; decide)]
    exact block_take h
structure Calm (D : Go.Disk.Dk) : Prop where
  on : D.off = false
  none : D.waits = []
theorem slot_rng {s : SU} (h : s.ok = true) : Int.tmod s.g 2 = 0 ∨ Int.tmod s.g 2 = 1 := by
  have := supOk_range h
  rw [Int.tmod_eq_emod_of_nonneg (by omega)]
  omega
theorem ready_any {D : Go.Disk.Dk} (h16 : 16 ≤ D.safe.length) (ho : D.off = false) (n : Int) (hn : n = 0 ∨ n = 1) : Go.Disk.ready D n = 0 := Disk.ready_ok ho n (by omega) (by omega)
theorem write_go {D : Go.Disk.Dk} (hc : Calm D) (h16 : 16 ≤ D.safe.length) {s : SU} (h : s.ok = true) (hb : s.b = D.safe.length) (hl : D.left = -1 ∨ 2 ≤ D.left) :
    (writeU D s).2 = 0 ∧ (writeU D s).1.safe = D.safe.set (Int.tmod s.g 2).toNat (blockU s) ∧ Calm (writeU D s).1 ∧ (D.left = -1 → (writeU D s).1.left = -1) := by
  obtain ⟨n, hn⟩ : ∃ n, n = Int.tmod s.g 2 := ⟨_, rfl⟩
  have hn01 : n = 0 ∨ n = 1 := by rw [hn]; exact slot_rng h
  have hr : Go.Disk.ready D n = 0 := ready_any h16 hc.on n hn01
  obtain ⟨L, hL⟩ : ∃ L, L = max (D.left - 1) (-1) := ⟨_, rfl⟩
  have hd : Disk.deedD (Disk.waitD D n (blockU s)) = { Disk.waitD D n (blockU s) with left := L } := by
    unfold Disk.deedD
    rw [if_neg (by show ¬ D.left = 0; omega), hL]
    rfl
  have hw : Disk.writeD D n (blockU s) = ({ D with waits := D.waits ++ [(n, blockU s)], left := L, writes := wrap64 (D.writes + 1) }, 0) := by
    unfold Disk.writeD
    rw [if_neg (by rw [hr]; decide), if_neg (by rw [block_len h]; decide), if_neg (by omega), hd]
    rfl
  obtain ⟨E, hE⟩ : ∃ E : Go.Disk.Dk, E = { D with waits := D.waits ++ [(n, blockU s)], left := L, writes := wrap64 (D.writes + 1) } := ⟨_, rfl⟩
  have hre : Go.Disk.ready E 0 = 0 := ready_any (by rw [hE]; exact h16) (by rw [hE]; exact hc.on) 0 (.inl rfl)
  have hEl : E.left ≠ 0 := by rw [hE]; show L ≠ 0; omega
  have hU : writeU D s = (Disk.flushF E, Disk.flushR E) := by
    unfold writeU
    rw [if_pos ⟨h, hb⟩, ← hn, hw, if_neg (fun k => k rfl), hE]
  have hfr : Disk.flushR E = 0 := by unfold Disk.flushR; rw [if_neg (by rw [hre]; decide), if_neg hEl]
  have hff : Disk.flushF E = Disk.flushD (Disk.deedD E) := by unfold Disk.flushF; rw [if_neg (by rw [hre]; decide), if_neg hEl]
  have hde : Disk.deedD E = { E with left := max (E.left - 1) (-1) } := by unfold Disk.deedD; rw [if_neg hEl]
  rw [hU]
  refine ⟨hfr, ?_, ⟨?_, ?_⟩, fun hm => ?_⟩
  · show (Disk.flushF E).safe = _
    rw [hff, hde, hE]
    show Disk.flushTo D.safe ((D.waits ++ [(n, blockU s)]).take (D.waits ++ [(n, blockU s)]).length) = _
    rw [List.take_length, hc.none, hn]
    rfl
  · show (Disk.flushF E).off = false
    rw [hff, hde, hE]
    exact hc.on
  · show (Disk.flushF E).waits = []
    rw [hff]
    rfl
  · show (Disk.flushF E).left = -1
    rw [hff, hde, hE]
    show max (L - 1) (-1) = -1
    omega
theorem write_stop {D : Go.Disk.Dk} (hc : Calm D) (h16 : 16 ≤ D.safe.length) {s : SU} (h : s.ok = true) (hb : s.b = D.safe.length) (hl : D.left = 0 ∨ D.left = 1) :
    (writeU D s).2 = 9 ∧ (writeU D s).1.safe = D.safe ∧ (writeU D s).1.waits = [(Int.tmod s.g 2, blockU s)] := by
  obtain ⟨n, hn⟩ : ∃ n, n = Int.tmod s.g 2 := ⟨_, rfl⟩
  have hn01 : n = 0 ∨ n = 1 := by rw [hn]; exact slot_rng h
  have hr : Go.Disk.ready D n = 0 := ready_any h16 hc.on n hn01
  rcases hl with hl | hl
  · have hw : Disk.writeD D n (blockU s) = ({ D with waits := D.waits ++ [(n, blockU s)], off := true }, 9) := by
      unfold Disk.writeD
      rw [if_neg (by rw [hr]; decide), if_neg (by rw [block_len h]; decide), if_pos hl]
      unfold Disk.deedD
      rw [if_pos (show (Disk.waitD D n (blockU s)).left = 0 from hl)]
      rfl
    have hU : writeU D s = ({ D with waits := D.waits ++ [(n, blockU s)], off := true }, 9) := by
      unfold writeU
      rw [if_pos ⟨h, hb⟩, ← hn, hw, if_pos (show (9 : Int) ≠ 0 by decide)]
    rw [hU, hc.none, ← hn]
    exact ⟨rfl, rfl, rfl⟩
  · have hw : Disk.writeD D n (blockU s) = ({ D with waits := D.waits ++ [(n, blockU s)], left := 0, writes := wrap64 (D.writes + 1) }, 0) := by
      unfold Disk.writeD
      rw [if_neg (by rw [hr]; decide), if_neg (by rw [block_len h]; decide), if_neg (by omega)]
      unfold Disk.deedD
      rw [if_neg (by show ¬ D.left = 0; omega)]
      show ((⟨D.safe, D.waits ++ [(n, blockU s)], max (D.left - 1) (-1), D.off, D.reads, wrap64 (D.writes + 1), D.flushes⟩ : Go.Disk.Dk), (0 : Int)) = _
      rw [hl]
      rfl
    obtain ⟨E, hE⟩ : ∃ E : Go.Disk.Dk, E = { D with waits := D.waits ++ [(n, blockU s)], left := 0, writes := wrap64 (D.writes + 1) } := ⟨_, rfl⟩
    have hre : Go.Disk.ready E 0 = 0 := ready_any (by rw [hE]; exact h16) (by rw [hE]; exact hc.on) 0 (.inl rfl)
    have hEl : E.left = 0 := by rw [hE]
    have hU : writeU D s = (Disk.flushF E, Disk.flushR E) := by
      unfold writeU
      rw [if_pos ⟨h, hb⟩, ← hn, hw, if_neg (fun k => k rfl), hE]
    have hfr : Disk.flushR E = 9 := by unfold Disk.flushR; rw [if_neg (by rw [hre]; decide), if_pos hEl]
    have hff : Disk.flushF E = { E with off := true } := by unfold Disk.flushF; rw [if_neg (by rw [hre]; decide), if_pos hEl]; unfold Disk.deedD; rw [if_pos hEl]
    rw [hU]
    refine ⟨hfr, ?_, ?_⟩
    · show (Disk.flushF E).safe = D.safe
      rw [hff, hE]
    · show (Disk.flushF E).waits = _
      rw [hff, hE]
      show D.waits ++ [(n, blockU s)] = _
      rw [hc.none, hn]
      rfl
theorem read_slots {D : Go.Disk.Dk} (hok : Go.Disk.Ok D) (hc : Calm D) (n m : Int) (a : SU) (T : List Int) (ha : a.ok = true) (hb : a.b = 16) (hm : m = Int.tmod a.g 2) (hn : n = 1 - m) (hs : D.safe = ((Go.Disk.zeros 16).set m.toNat (blockU a)).set n.toNat T) :
    ((getU (T.take 64)).2 ≠ 0 → readU D = (a, 0)) ∧ (∀ b : SU, b.ok = true → b.b = 16 → b.g = a.g + 1 → T.take 64 = b.put.1 → readU D = (b, 0)) := by
  have hm01 := slot_rng ha
  rw [← hm] at hm01
  have hlen : D.safe.length = 16 := by rw [hs]; simp [Go.Disk.zeros]
  have hr : Go.Disk.ready D 0 = 0 := ready_any (by omega) hc.on 0 (.inl rfl)
  have hnow : ∀ k : Int, Disk.nowD D k = D.safe.getD k.toNat [] := fun k => Disk.now_none hc.none k
  have ha1 := (supOk_range ha).1
  have hA : Holds 16 m (blockU a) a := by rw [hm]; exact holds_block ha hb
  rw [readU_two D hok hr, hlen, hnow 0, hnow 1]
  rcases hm01 with h | h
  · have h1 : n = 1 := by omega
    have e0 : D.safe.getD (0 : Int).toNat [] = blockU a := by rw [hs, h, h1]; rfl
    have e1 : D.safe.getD (1 : Int).toNat [] = T := by rw [hs, h, h1]; rfl
    rw [e0, e1]
    rw [h] at hA
    refine ⟨fun hT => read_one (.inl ⟨hA, hT⟩), fun b hbo hbb hbg hT => ?_⟩
    have hB : Holds 16 1 T b := by
      refine ⟨by rw [hT]; exact getU_put b hbo, hbb, ?_, by omega⟩
      rw [Int.tmod_eq_emod_of_nonneg (by omega)]
      rw [Int.tmod_eq_emod_of_nonneg (by omega)] at hm
      omega
    rw [read_both hA hB, if_pos (by omega)]
  · have h1 : n = 0 := by omega
    have e0 : D.safe.getD (0 : Int).toNat [] = T := by rw [hs, h, h1]; rfl
    have e1 : D.safe.getD (1 : Int).toNat [] = blockU a := by rw [hs, h, h1]; rfl
    rw [e0, e1]
    rw [h] at hA
    refine ⟨fun hT => read_one (.inr ⟨hA, hT⟩), fun b hbo hbb hbg hT => ?_⟩
    have hB : Holds 16 0 T b := by
      refine ⟨by rw [hT]; exact getU_put b hbo, hbb, ?_, by omega⟩
      rw [Int.tmod_eq_emod_of_nonneg (by omega)]
      rw [Int.tmod_eq_emod_of_nonneg (by omega)] at hm
      omega
    rw [read_both hB hA, if_neg (by omega)]
theorem whole_law (a b : SU) (ha : a.ok = true) (hb : b.ok = true) (ha16 : a.b = 16) (hb16 : b.b = 16) (hg : b.g = a.g + 1) (N : Int) (hN : 0 ≤ N) (ms : List Int) (hok : Go.Disk.Ok (Disk.crashD (writeU (Disk.stopD (writeU D0 a).1 N) b).1 ms)) :
    (writeU D0 a).2 = 0 ∧ (((writeU (Disk.stopD (writeU D0 a).1 N) b).2 = 0 ∧ readU (Disk.crashD (writeU (Disk.stopD (writeU D0 a).1 N) b).1 ms) = (b, 0)) ∨
      ((writeU (Disk.stopD (writeU D0 a).1 N) b).2 = 9 ∧ (readU (Disk.crashD (writeU (Disk.stopD (writeU D0 a).1 N) b).1 ms) = (a, 0) ∨ readU (Disk.crashD (writeU (Disk.stopD (writeU D0 a).1 N) b).1 ms) = (b, 0)))) := by
  have ha1 := (supOk_range ha).1
  obtain ⟨m, hm⟩ : ∃ m, m = Int.tmod a.g 2 := ⟨_, rfl⟩
  obtain ⟨n, hn⟩ : ∃ n, n = Int.tmod b.g 2 := ⟨_, rfl⟩
  have hm01 := slot_rng ha
  rw [← hm] at hm01
  have hnm : n = 1 - m := by
    rw [Int.tmod_eq_emod_of_nonneg (by omega)] at hm hn
    omega
  have h0 := write_go (D := D0) ⟨rfl, rfl⟩ (by decide) ha (by rw [ha16]; rfl) (.inl rfl)
  obtain ⟨e0, s0, c0, l0⟩ := h0
  rw [← hm] at s0
  have hs0 : (writeU D0 a).1.safe = (Go.Disk.zeros 16).set m.toNat (blockU a) := s0
  obtain ⟨D1, hD1⟩ : ∃ D1, D1 = Disk.stopD (writeU D0 a).1 N := ⟨_, rfl⟩
  have hs1 : D1.safe = (Go.Disk.zeros 16).set m.toNat (blockU a) := by rw [hD1]; exact hs0
  have hc1 : Calm D1 := by rw [hD1]; exact ⟨c0.on, c0.none⟩
  have hl1 : D1.left = N := by rw [hD1]; rfl
  have h16 : D1.safe.length = 16 := by rw [hs1]; simp [Go.Disk.zeros]
  rw [← hD1] at hok ⊢
  clear hD1 s0 hs0 c0 l0
  refine ⟨e0, ?_⟩
  by_cases h2 : 2 ≤ N
  · obtain ⟨e1, s1, c1, _⟩ := write_go hc1 (by omega) hb (by rw [hb16, h16]; rfl) (.inr (by omega))
    left
    refine ⟨e1, ?_⟩
    have hcs : (Disk.crashD (writeU D1 b).1 ms).safe = (writeU D1 b).1.safe := by
      unfold Disk.crashD
      rw [c1.none]
      cases ms <;> rfl
    rw [← hn] at s1
    refine (read_slots hok ⟨rfl, rfl⟩ n m a (blockU b) ha ha16 hm hnm (by rw [hcs, s1, hs1])).2 b hb hb16 hg (block_take hb)
  · obtain ⟨e1, s1, w1⟩ := write_stop hc1 (by omega) hb (by rw [hb16, h16]; rfl) (by omega)
    right
    refine ⟨e1, ?_⟩
    rw [← hn] at w1
    have hz : ((Go.Disk.zeros 16).set m.toNat (blockU a)).getD n.toNat [] = List.replicate 256 0 := by
      rcases hm01 with h | h
      · rw [hnm, h]; rfl
      · rw [hnm, h]; rfl
    cases ms with
    | nil =>
      left
      have hcs : (Disk.crashD (writeU D1 b).1 []).safe = (writeU D1 b).1.safe := by
        unfold Disk.crashD
        rw [w1]
        rfl
      refine (read_slots hok ⟨rfl, rfl⟩ n m a (List.replicate 256 0) ha ha16 hm hnm ?_).1 (zero_slot (by rw [List.take_replicate]; rfl))
      rw [hcs, s1, hs1]
      rcases hm01 with h | h
      · rw [hnm, h]; rfl
      · rw [hnm, h]; rfl
    | cons k ks =>
      have hcs : (Disk.crashD (writeU D1 b).1 (k :: ks)).safe = (writeU D1 b).1.safe.set n.toNat (Go.Disk.tornTo (Disk.onM k) ((writeU D1 b).1.safe.getD n.toNat []) (blockU b) 4) := by
        unfold Disk.crashD
        rw [w1]
        cases ks <;> rfl
      rw [s1, hs1, hz] at hcs
      have hrd := read_slots hok ⟨rfl, rfl⟩ n m a _ ha ha16 hm hnm hcs
      rcases torn_slot (Disk.onM k) hb with h | h
      · exact .inl (hrd.1 (zero_slot h))
      · exact .inr (hrd.2 b hb hb16 hg h)
end Supr
end Go.Proofs.Ytopfjmeejpamjaa
end
section
namespace Go.Proofs.Ytopfjmeejpamjaa
set_option linter.unusedVariables false
set_option linter.unusedSimpArgs false
set_option linter.ambiguousOpen false
open Go.RowKit Go.Proofs.YtopfjmeejpamjaaW.PrintWords Go.Proofs.YtopfjmeejpamjaaW.PrintLast Go.Proofs.YtopfjmeejpamjaaW.PrintMore
namespace Supr
open Go.Num Go.Crc Go.Proofs.Ytopfjmeejpamjaa.Cell Go.Proofs.Ytopfjmeejpamjaa.Sect
theorem keep_tag {w w' : World} {base db sb ub t : Nat} {D : Go.Disk.Dk} {uc : Array Value} (h : Disk.PD w base db sb D) (f : Disk.FP base db sb w w') (h1 : t ≠ 91) (h2 : t ≠ 5) (h3 : t ≠ 94) (hu : w.heap[ub]? = some (.cells uc t (0, 0))) : w'.heap[ub]? = some (.cells uc t (0, 0)) := by
  obtain ⟨⟨_, k1⟩, _, k2⟩ := pd_tags h
  exact (f.block ub (blk_lt hu) (fun e => e.elim (fun e => tag_ne hu k1 h1 e) (fun e => tag_ne hu k2 h2 e)) (fun c t' fz hc e => by
    rw [hu] at hc
    cases hc
    exact absurd e.2 h3)).trans hu
abbrev calmC (AL : Option Addr) (nl cL : Nat) (AK : Option Addr) (nk cK : Nat) (n : Int) (AM : Option Addr) (nm cM : Nat) : Array Value := #[.slice AL nl cL, .slice AK nk cK, .int .i64 n, .slice AM nm cM]
structure LW (w0 w : World) (a b : SU) (cs : Array Value) : Prop where
  bel : Below w0.heap.size w0 w
  sa : Sup w w0.heap.size a
  sb : Sup w (w0.heap.size + 1) b
  sc : w.heap[w0.heap.size + 1 + 1]? = some (.cells cs 39 (0, 0))
theorem LW.step {w0 w w' : World} {a b : SU} {cs : Array Value} (h : LW w0 w a b cs) (f : Below w.heap.size w w') : LW w0 w' a b cs :=
  ⟨h.bel.trans (f.mono h.bel.size), h.sa.step f, h.sb.step f, (f.block _ (blk_lt h.sc)).trans h.sc⟩
theorem LW.disk {w0 w w' : World} {a b : SU} {cs : Array Value} {db sb : Nat} {D : Go.Disk.Dk} (h : LW w0 w a b cs) (p : Disk.PD w w0.heap.size db sb D) (hd : w0.heap.size ≤ db) (hs : w0.heap.size ≤ sb) (f : Disk.FP w0.heap.size db sb w w') : LW w0 w' a b cs :=
  ⟨h.bel.trans (Disk.FP.below f hd hs h.bel.size), keep_super p f h.sa, keep_super p f h.sb, keep_tag p f (by decide) (by decide) (by decide) h.sc⟩
theorem pd_low {w : World} {base base' db sb : Nat} {D : Go.Disk.Dk} (h : Disk.PD w base db sb D) (hb : base' ≤ base) : Disk.PD w base' db sb D := by
  obtain ⟨vw, cs, sp, h⟩ := h
  exact ⟨vw, cs, sp, h.ok, Nat.le_trans hb h.dbase, Nat.le_trans hb h.sbase, fun k hk => Nat.le_trans hb (h.wown k hk), h.cells, h.waits, h.safe, h.room⟩
theorem writeU_waits (D : Go.Disk.Dk) (s : SU) : (writeU D s).1.waits.length ≤ D.waits.length + 1 := by
  have h := write_waits D (Int.tmod s.g 2) (blockU s)
  unfold writeU
  split
  · split
    · exact h
    · refine Nat.le_trans ?_ h
      show (Disk.flushF _).waits.length ≤ _
      have := Disk.waits_do (Disk.writeD D (Int.tmod s.g 2) (blockU s)).1 3 0 [] false []
      unfold Disk.flushF
      split
      · exact Nat.le_refl _
      · split
        · rw [Disk.waits_deed]; exact Nat.le_refl _
        · exact Nat.zero_le _
  · exact Nat.le_succ _
set_option maxHeartbeats 32000000 in
set_option maxRecDepth 100000 in
theorem whole_walk {w : World} (a b : SU) (AL : Option Addr) (nl cL : Nat) (AK : Option Addr) (nk cK : Nat) (N : Int) (AM : Option Addr) (cM : Nat) (ms : List Int) (ha : -9223372036854775808 ≤ a.g) (hN : N ≤ 9223372036854775807) (hM : Kd.C (Kd.int .i64) w AM ms.length ms) (hcM : ms.length ≤ cM) :
    Calls Try.prog 5 #[a.v, b.v, .agg (calmC AL nl cL AK nk cK N AM ms.length cM)] w fun r w' => r = .returned (.bool true) ∧ Below w.heap.size w w' := by
  have HM := Aside0.mk hM
  obtain ⟨nm, hnm⟩ : ∃ nm, nm = ms.length := ⟨_, rfl⟩
  have HCM := Aside0.mk hcM
  have HNM := Aside0.mk hnm
  rw [← hnm]
  obtain ⟨cs, hcs⟩ : ∃ cs, cs = calmC AL nl cL AK nk cK N AM nm cM := ⟨_, rfl⟩
  obtain ⟨w1, hw1⟩ : ∃ w1, w1 = ((w.alloc (.cells (sixU a.g a.b a.l a.p a.q a.o) 25)).alloc (.cells (sixU b.g b.b b.l b.p b.q b.o) 25)).alloc (.cells (calmC AL nl cL AK nk cK N AM nm cM) 39) := ⟨_, rfl⟩
  have HL := Aside0.mk (show LW w w1 a b cs from ⟨by rw [hw1]; exact (((Below.refl _ _).alloc (Nat.le_refl _) _).alloc (by simp) _).alloc (by simp; omega) _, by
    rw [hw1]
    unfold Sup
    rw [Below.heap_alloc _ _ _ (by simp; omega), Below.heap_alloc _ _ _ (by simp)]
    exact heap_alloc_new w _, by
    rw [hw1]
    unfold Sup
    rw [Below.heap_alloc _ _ _ (by simp)]
    have := heap_alloc_new (w.alloc (.cells (sixU a.g a.b a.l a.p a.q a.o) 25)) (.cells (sixU b.g b.b b.l b.p b.q b.o) 25)
    rw [World.size_alloc] at this
    exact this, by
    rw [hw1, hcs]
    have := heap_alloc_new ((w.alloc (.cells (sixU a.g a.b a.l a.p a.q a.o) 25)).alloc (.cells (sixU b.g b.b b.l b.p b.q b.o) 25)) (.cells (calmC AL nl cL AK nk cK N AM nm cM) 39)
    rw [World.size_alloc, World.size_alloc] at this
    exact this⟩)
  have HW1 := Aside0.mk hw1
  have HCS := Aside0.mk hcs
  clear hM hcM hnm hcs hw1
  by_cases hbig : 2147483647 ≤ a.g
  · go_enter Try.func5, Try.ntmps5
    go_upto_region 1 with (fail)
    rw [← HW1.out]
    obtain ⟨⟨a0, a1, a2, a3, a4, a5⟩, _⟩ := cells6 HL.out.sa
    go_wp2_with fail
    refine (awake_any _).mono ?_
    rintro r w2 ⟨rfl, b2⟩
    replace HL := Aside0.mk (HL.out.step b2)
    clear b2
    go_wp2_with fail
    go_ret
    exact ⟨rfl, HL.out.bel⟩
  · have hwr : wrap64 (a.g + 1) = a.g + 1 := by unfold wrap64; omega
    have HWR := Aside0.mk hwr
    obtain ⟨a', ha'⟩ : ∃ s : SU, s = ⟨a.g, 16, a.l, a.p, a.q, a.o⟩ := ⟨_, rfl⟩
    obtain ⟨b', hb'⟩ : ∃ s : SU, s = ⟨a.g + 1, 16, b.l, b.p, b.q, b.o⟩ := ⟨_, rfl⟩
    go_enter Try.func5, Try.ntmps5
    go_upto_region 1 with (fail)
    rw [← HW1.out]
    obtain ⟨⟨a0, a1, a2, a3, a4, a5⟩, f0, f1, f2, f3, f4, f5⟩ := cells6 HL.out.sa
    obtain ⟨⟨d0, d1, d2, d3, d4, d5⟩, g0, g1, g2, g3, g4, g5⟩ := cells6 HL.out.sb
    go_upto_region 4 with (fail)
    clear a0 a1 a2 a3 a4 a5 f0 f1 f2 f3 f4 f5 d0 d1 d2 d3 d4 d5 g0 g1 g2 g3 g4 g5
    obtain ⟨w2, hw2⟩ : ∃ w2, w2 = ((w1.setCell ⟨w.heap.size, 1, none⟩ (.int .i64 16)).setCell ⟨w.heap.size + 1, 1, none⟩ (.int .i64 16)).setCell ⟨w.heap.size + 1, 0, none⟩ (.int .i64 (a.g + 1)) := ⟨_, rfl⟩
    have HL2 := Aside0.mk (show LW w w2 a' b' cs by
      have n1 : w.heap.size ≠ w.heap.size + 1 := by omega
      have n2 : w.heap.size + 1 + 1 ≠ w.heap.size + 1 := by omega
      have n3 : w.heap.size + 1 + 1 ≠ w.heap.size := by omega
      refine ⟨?_, ?_, ?_, ?_⟩
      · rw [hw2]
        exact ((HL.out.bel.setCell (p := ⟨w.heap.size, 1, none⟩) (Nat.le_refl _) _).setCell (p := ⟨w.heap.size + 1, 1, none⟩) (Nat.le_succ _) _).setCell (p := ⟨w.heap.size + 1, 0, none⟩) (Nat.le_succ _) _
      · rw [hw2]
        unfold Sup
        rw [Below.heap_setCell _ _ _ _ n1, Below.heap_setCell _ _ _ _ n1, blk_set HL.out.sa 1 _, ha']
        rfl
      · rw [hw2]
        unfold Sup
        have h1 : (w1.setCell ⟨w.heap.size, 1, none⟩ (.int .i64 16)).heap[w.heap.size + 1]? = some (.cells (sixU b.g b.b b.l b.p b.q b.o) 25 (0, 0)) := by
          rw [Below.heap_setCell _ _ _ _ (Ne.symm n1)]
          exact HL.out.sb
        rw [blk_set (blk_set h1 1 _) 0 _, hb']
        rfl
      · rw [hw2, Below.heap_setCell _ _ _ _ n2, Below.heap_setCell _ _ _ _ n2, Below.heap_setCell _ _ _ _ n3]
        exact HL.out.sc)
    rw [← hw2]
    have HAG := Aside0.mk (show a'.b = 16 ∧ b'.b = 16 ∧ b'.g = a'.g + 1 by rw [ha', hb']; exact ⟨rfl, rfl, rfl⟩)
    clear hw2 ha' hb' HL HW1 hwr HWR hbig ha
    obtain ⟨⟨a0, a1, a2, a3, a4, a5⟩, _⟩ := cells6 HL2.out.sa
    go_wp2_with fail
    clear a0 a1 a2 a3 a4 a5
    have hx := xcheck_any (w := w2) a'.g a'.b a'.l a'.p a'.q a'.o
    obtain ⟨z1, hz1⟩ : ∃ z, z = a'.ok := ⟨_, rfl⟩
    rw [show supOk a'.g a'.b a'.l a'.p a'.q a'.o = z1 from hz1.symm] at hx
    have HZ1 := Aside0.mk hz1
    refine hx.mono ?_
    clear hx hz1
    rintro r w3 ⟨rfl, b3⟩
    have HL3 := Aside0.mk (HL2.out.step b3)
    clear b3 HL2
    cases z1 with
    | false =>
      go_wp2_with fail
      refine (awake_any _).mono ?_
      rintro r w4 ⟨rfl, b4⟩
      replace HL3 := Aside0.mk (HL3.out.step b4)
      clear b4
      go_wp2_with fail
      go_ret
      exact ⟨rfl, HL3.out.bel⟩
    | true =>
      obtain ⟨⟨a0, a1, a2, a3, a4, a5⟩, _⟩ := cells6 HL3.out.sb
      go_wp2_with fail
      clear a0 a1 a2 a3 a4 a5
      have hx := xcheck_any (w := w3) b'.g b'.b b'.l b'.p b'.q b'.o
      obtain ⟨z2, hz2⟩ : ∃ z, z = b'.ok := ⟨_, rfl⟩
      rw [show supOk b'.g b'.b b'.l b'.p b'.q b'.o = z2 from hz2.symm] at hx
      have HZ2 := Aside0.mk hz2
      refine hx.mono ?_
      clear hx hz2
      rintro r w4 ⟨rfl, b4⟩
      have HL4 := Aside0.mk (HL3.out.step b4)
      clear b4 HL3
      cases z2 with
      | false =>
        go_wp2_with fail
        refine (awake_any _).mono ?_
        rintro r w5 ⟨rfl, b5⟩
        replace HL4 := Aside0.mk (HL4.out.step b5)
        clear b5
        go_wp2_with fail
        go_ret
        exact ⟨rfl, HL4.out.bel⟩
      | true =>
        have hsc := HL4.out.sc
        rw [HCS.out] at hsc
        have k2 : w4.cell? ⟨w.heap.size + 1 + 1, 2, none⟩ = some (.int .i64 N) := cell_blk hsc
        clear hsc
        by_cases hN0 : N < 0
        · go_wp2_with fail
          refine (awake_any _).mono ?_
          rintro r w5 ⟨rfl, b5⟩
          replace HL4 := Aside0.mk (HL4.out.step b5)
          clear b5
          go_wp2_with fail
          go_ret
          exact ⟨rfl, HL4.out.bel⟩
        · go_wp2_with fail
          clear k2
          refine (Disk.blank_yes 16 w4 (by omega)).mono ?_
          rintro r w5 ⟨db, sb, rfl, p5, b5⟩
          have HDS := Aside0.mk (show w.heap.size ≤ db ∧ w.heap.size ≤ sb by
            obtain ⟨_, _, _, h⟩ := p5
            exact ⟨Nat.le_trans HL4.out.bel.size h.dbase, Nat.le_trans HL4.out.bel.size h.sbase⟩)
          have HP := Aside0.mk (show Disk.PD w5 w.heap.size db sb D0 from pd_low p5 HL4.out.bel.size)
          replace HL4 := Aside0.mk (HL4.out.step b5)
          clear p5 b5
          have HLAW := Aside0.mk (fun hok => whole_law a' b' HZ1.out.symm HZ2.out.symm HAG.out.1 HAG.out.2.1 HAG.out.2.2 N (by omega) ms hok)
          obtain ⟨⟨a0, a1, a2, a3, a4, a5⟩, _⟩ := cells6 HL4.out.sa
          go_wp2_with fail
          clear a0 a1 a2 a3 a4 a5
          obtain ⟨W1, hW1⟩ : ∃ W, W = writeU D0 a' := ⟨_, rfl⟩
          have HE0 := Aside0.mk (show W1.2 = 0 by rw [hW1]; exact (write_go (D := D0) ⟨rfl, rfl⟩ (by decide) HZ1.out.symm (by rw [HAG.out.1]; rfl) (.inl rfl)).1)
          have hr := swrite_any HP.out a' (by rw [ex10.1]; decide)
          rw [← hW1, HE0.out] at hr
          rw [← hW1] at HLAW
          refine hr.mono ?_
          clear hr
          rintro r w6 ⟨rfl, p6, f6⟩
          have HL6 := Aside0.mk (HL4.out.disk HP.out HDS.out.1 HDS.out.2 f6)
          have HP6 := Aside0.mk p6
          have HW1 := Aside0.mk (show W1.1.waits.length = 0 by rw [hW1]; rw [(write_go (D := D0) ⟨rfl, rfl⟩ (by decide) HZ1.out.symm (by rw [HAG.out.1]; rfl) (.inl rfl)).2.2.1.none]; rfl)
          clear p6 f6 HL4 HP hW1
          have hsc := HL6.out.sc
          rw [HCS.out] at hsc
          have k2 : w6.cell? ⟨w.heap.size + 1 + 1, 2, none⟩ = some (.int .i64 N) := cell_blk hsc
          clear hsc
          go_wp2_with fail
          clear k2
          have hst := Disk.stop_any N HP6.out hN
          rw [if_neg (by omega), if_neg (by omega)] at hst
          refine hst.mono ?_
          clear hst
          rintro r w7 ⟨rfl, p7, f7⟩
          have HL7 := Aside0.mk (HL6.out.disk HP6.out HDS.out.1 HDS.out.2 f7)
          have HP7 := Aside0.mk p7
          clear p7 f7 HL6 HP6
          obtain ⟨⟨a0, a1, a2, a3, a4, a5⟩, _⟩ := cells6 HL7.out.sb
          go_wp2_with fail
          clear a0 a1 a2 a3 a4 a5
          obtain ⟨W2, hW2⟩ : ∃ W, W = writeU (Disk.stopD W1.1 N) b' := ⟨_, rfl⟩
          obtain ⟨e, he⟩ : ∃ e, e = W2.2 := ⟨_, rfl⟩
          have hr := swrite_any HP7.out b' (show W1.1.waits.length ≤ 900000 by rw [HW1.out]; decide)
          rw [← hW2, ← he] at hr
          rw [← hW2, ← he] at HLAW
          have HWW := Aside0.mk (show W2.1.waits.length ≤ 900001 by rw [hW2]; have := writeU_waits (Disk.stopD W1.1 N) b'; have h0 : (Disk.stopD W1.1 N).waits.length = 0 := HW1.out; omega)
          refine hr.mono ?_
          clear hr hW2 he
          rintro r w8 ⟨rfl, p8, f8⟩
          have HL8 := Aside0.mk (HL7.out.disk HP7.out HDS.out.1 HDS.out.2 f8)
          have HP8 := Aside0.mk p8
          clear p8 f8 HL7 HP7
          have hsc := HL8.out.sc
          rw [HCS.out] at hsc
          have k3 : w8.cell? ⟨w.heap.size + 1 + 1, 3, none⟩ = some (.slice AM nm cM) := cell_blk hsc
          clear hsc
          go_wp2_with fail
          clear k3
          have hcr := Disk.crash_any HP8.out AM cM ms (Kd.C_below HM.out HL8.out.bel) HCM.out (fun x hx => Kd.C_below HM.out (HL8.out.bel.trans (Disk.FP.below (base := w.heap.size) (db := db) (sb := sb) (hx.mono (fun k h => .inr h) (fun _ _ h => h.elim)) HDS.out.1 HDS.out.2 HL8.out.bel.size)))
          rw [← HNM.out] at hcr
          refine hcr.mono ?_
          clear hcr
          rintro r w9 ⟨⟨v9, rfl⟩, p9, f9⟩
          have HL9 := Aside0.mk (HL8.out.disk HP8.out HDS.out.1 HDS.out.2 f9)
          have HP9 := Aside0.mk p9
          have HLX := Aside0.mk (HLAW.out p9.ok).2
          clear p9 f9 HL8 HP8 HLAW
          go_wp2_with fail
          obtain ⟨R, hR⟩ : ∃ R, R = readU (Disk.crashD W2.1 ms) := ⟨_, rfl⟩
          have hr := sread_any HP9.out (show (Disk.crashD W2.1 ms).waits.length ≤ 1000000 from Nat.zero_le _)
          rw [← hR] at hr HLX
          have HC0 := Aside0.mk (show ∃ s : SU, R = (s, 0) ∧ ((e = 0 ∧ s = b') ∨ (e = 9 ∧ (s = a' ∨ s = b'))) by
            rcases HLX.out with ⟨h1, h2⟩ | ⟨h1, h2 | h2⟩
            · exact ⟨b', h2, .inl ⟨h1, rfl⟩⟩
            · exact ⟨a', h2, .inr ⟨h1, .inl rfl⟩⟩
            · exact ⟨b', h2, .inr ⟨h1, .inr rfl⟩⟩)
          clear hR HLX
          obtain ⟨s, hs, hcase⟩ := HC0.out
          rw [hs] at hr
          have HCASE := Aside0.mk hcase
          refine hr.mono ?_
          clear hr hs hcase HC0 R
          rintro r w10 ⟨rfl, p10, f10⟩
          have HL10 := Aside0.mk (HL9.out.disk HP9.out HDS.out.1 HDS.out.2 f10)
          clear p10 f10 HL9 HP9
          go_upto_region 13 with (fail)
          obtain ⟨w11, hw11⟩ : ∃ z, z = w10.alloc (.cells #[.int .i64 s.g, .int .i64 s.b, .int .i64 s.l, .int .i64 s.p, .int .i64 s.q, .int .i64 s.o] 25) := ⟨_, rfl⟩
          have b11 : Below w10.heap.size w10 w11 := by rw [hw11]; exact (Below.refl _ _).alloc (Nat.le_refl _) _
          have HT := Aside0.mk (show Sup w11 w10.heap.size s by rw [hw11]; exact heap_alloc_new w10 _)
          obtain ⟨ut, hut⟩ : ∃ ut, ut = w10.heap.size := ⟨_, rfl⟩
          rw [← hw11, ← hut]
          rw [← hut] at HT
          have HL11 := Aside0.mk (HL10.out.step b11)
          clear hw11 b11 hut HL10
          obtain ⟨⟨a0, a1, a2, a3, a4, a5⟩, _⟩ := cells6 HL11.out.sa
          obtain ⟨⟨d0, d1, d2, d3, d4, d5⟩, _⟩ := cells6 HL11.out.sb
          obtain ⟨⟨t0, t1, t2, t3, t4, t5⟩, _⟩ := cells6 HT.out
          rcases HCASE.out with ⟨he, hs⟩ | ⟨he, hs⟩
          · subst he
            subst hs
            have hes := eq_self s
            go_wp2_with fail
            refine (awake_any _).mono ?_
            rintro r w12 ⟨rfl, b12⟩
            replace HL11 := Aside0.mk (HL11.out.step b12)
            clear b12
            go_wp2_with fail
            go_ret
            exact ⟨rfl, HL11.out.bel⟩
          · subst he
            by_cases hsa : s = a'
            · subst hsa
              have hes := eq_self s
              go_wp2_with fail
              refine (awake_any _).mono ?_
              rintro r w12 ⟨rfl, b12⟩
              replace HL11 := Aside0.mk (HL11.out.step b12)
              clear b12
              go_wp2_with fail
              go_ret
              exact ⟨rfl, HL11.out.bel⟩
            · have hsb : s = b' := hs.resolve_left hsa
              subst hsb
              have hes := eq_self s
              have hea : ∀ x, (Op.equalIn 10000 25 s.v a'.v).run Try.prog x = .ok false x := fun x => by
                rw [eq_super]
                have : eqU s a' = false := by
                  cases h : eqU s a' with
                  | false => rfl
                  | true => exact absurd ((eqU_iff _ _).1 h) hsa
                rw [this]
              clear hs hsa
              go_wp2_with fail
              refine (awake_any _).mono ?_
              rintro r w12 ⟨rfl, b12⟩
              replace HL11 := Aside0.mk (HL11.out.step b12)
              clear b12
              go_wp2_with fail
              go_ret
              exact ⟨rfl, HL11.out.bel⟩
end Supr
end Go.Proofs.Ytopfjmeejpamjaa
end
section
namespace Go.Proofs.Ytopfjmeejpamjaa
set_option linter.unusedVariables false
set_option linter.unusedSimpArgs false
open Go.RowKit Go.Proofs.YtopfjmeejpamjaaW.PrintWords
namespace Op
open Go.ChangeShapes Go.WideShapes
def in8 (x : Int) : Prop := 0 ≤ x ∧ x ≤ 255
theorem wf_u8 {x : Int} (h : (Lit.int .u8 x).wf = true) : in8 x := by
  simp only [Lit.wf, Bool.and_eq_true, decide_eq_true_eq] at h
  have h1 : IntKind.min .u8 = 0 := by decide
  have h2 : IntKind.max .u8 = 255 := by decide
  rw [h1, h2] at h
  exact h
theorem cells_u8 : Try.prog.cellsOf 5 = 1 := by kernel_rfl
theorem cells_int1 : Try.prog.cellsOf 3 = 1 := by kernel_rfl
theorem cells_u8s : Try.prog.cellsOf 26 = 1 := by kernel_rfl
section
variable {H : Type} {enc : TypeId × Value → H} {P : Program} {w : World} {base : Nat} {spare : Nat → Bool} {held : Bool}
theorem open_u8 {t : TypeId} (ht : P.underlying t = some (.int .u8)) {fuel : Nat} {cs : List Value} {y : DataW H × List MemPlace} (h : DataW.trod enc P w base spare held fuel t cs = some y) :
    ∃ x, (Kd.int .u8).K w x cs ∧ in8 x := by
  obtain ⟨x, e, _, hw⟩ := DataW.trod_int ht h
  exact ⟨x, e, wf_u8 hw⟩
theorem open_u8s {fuel : Nat} {cs : List Value} {y : DataW H × List MemPlace} (h : DataW.trod enc Try.prog w base spare held fuel 26 cs = some y) :
    ∃ x : List Int, (Kd.slice 5 (Kd.int .u8)).K w x cs ∧ ∀ z ∈ x, in8 z := by
  obtain ⟨A, c, ys, e1, h1, h2, h3, _⟩ := open_rows (Kd.int .u8) in8 Try.underlying26 (by rw [cells_u8]; rfl) (fun fuel cs y h => open_u8 Try.underlying5 h) h
  exact ⟨ys, ⟨A, c, e1, h1, h2⟩, h3⟩
end
end Op
end Go.Proofs.Ytopfjmeejpamjaa
end
section
namespace Go.Proofs.Ytopfjmeejpamjaa
set_option linter.unusedVariables false
set_option linter.unusedSimpArgs false
open Go.RowKit Go.Proofs.YtopfjmeejpamjaaW.PrintWords
namespace Op
open Go.ChangeShapes Go.WideShapes
theorem trod_st4 {H : Type} {enc : TypeId × Value → H} {P : Program} {w : World} {base : Nat} {spare : Nat → Bool} {held : Bool} {t : TypeId} {f0 f1 f2 f3 : Field} {fuel : Nat} {cs : List Value} {x : DataW H × List MemPlace} (ht : P.underlying t = some (.struct #[f0, f1, f2, f3])) (h : DataW.trod enc P w base spare held fuel t cs = some x) :
    ∃ (y0 y1 y2 y3 : DataW H × List MemPlace) (n : Nat), cs.length = P.cellsOf t ∧ DataW.trod enc P w base spare held n f0.type ((cs.drop f0.offset).take (P.cellsOf f0.type)) = some y0 ∧ DataW.trod enc P w base spare held n f1.type ((cs.drop f1.offset).take (P.cellsOf f1.type)) = some y1 ∧ DataW.trod enc P w base spare held n f2.type ((cs.drop f2.offset).take (P.cellsOf f2.type)) = some y2 ∧ DataW.trod enc P w base spare held n f3.type ((cs.drop f3.offset).take (P.cellsOf f3.type)) = some y3 := by
  obtain ⟨xs, n, _, rfl, hl, hlen, hf⟩ := DataW.trod_struct ht h
  match xs, hlen with
  | [y0, y1, y2, y3], _ => exact ⟨y0, y1, y2, y3, n, hl, by simpa using hf 0 f0 rfl, by simpa using hf 1 f1 rfl, by simpa using hf 2 f2 rfl, by simpa using hf 3 f3 rfl⟩
theorem trod_st5 {H : Type} {enc : TypeId × Value → H} {P : Program} {w : World} {base : Nat} {spare : Nat → Bool} {held : Bool} {t : TypeId} {f0 f1 f2 f3 f4 : Field} {fuel : Nat} {cs : List Value} {x : DataW H × List MemPlace} (ht : P.underlying t = some (.struct #[f0, f1, f2, f3, f4])) (h : DataW.trod enc P w base spare held fuel t cs = some x) :
    ∃ (y0 y1 y2 y3 y4 : DataW H × List MemPlace) (n : Nat), cs.length = P.cellsOf t ∧ DataW.trod enc P w base spare held n f0.type ((cs.drop f0.offset).take (P.cellsOf f0.type)) = some y0 ∧ DataW.trod enc P w base spare held n f1.type ((cs.drop f1.offset).take (P.cellsOf f1.type)) = some y1 ∧ DataW.trod enc P w base spare held n f2.type ((cs.drop f2.offset).take (P.cellsOf f2.type)) = some y2 ∧ DataW.trod enc P w base spare held n f3.type ((cs.drop f3.offset).take (P.cellsOf f3.type)) = some y3 ∧ DataW.trod enc P w base spare held n f4.type ((cs.drop f4.offset).take (P.cellsOf f4.type)) = some y4 := by
  obtain ⟨xs, n, _, rfl, hl, hlen, hf⟩ := DataW.trod_struct ht h
  match xs, hlen with
  | [y0, y1, y2, y3, y4], _ => exact ⟨y0, y1, y2, y3, y4, n, hl, by simpa using hf 0 f0 rfl, by simpa using hf 1 f1 rfl, by simpa using hf 2 f2 rfl, by simpa using hf 3 f3 rfl, by simpa using hf 4 f4 rfl⟩
end Op
end Go.Proofs.Ytopfjmeejpamjaa
end
section
namespace Go.Proofs.Ytopfjmeejpamjaa
set_option linter.unusedVariables false
set_option linter.unusedSimpArgs false
open Go.RowKit Go.Proofs.YtopfjmeejpamjaaW.PrintWords
namespace Op
open Go.ChangeShapes Go.WideShapes
set_option maxRecDepth 100000 in
theorem struct_part : ∃ f0 f1 f2 : Field, Try.prog.underlying 23 = some (.struct #[f0, f1, f2]) ∧ (f0.offset = 0 ∧ f1.offset = 1 ∧ f2.offset = 2) ∧ (f0.type = 3 ∧ f1.type = 3 ∧ f2.type = 3) := by
  have h : (Try.prog.underlying 23).map (fun d => match d with | .struct fs => (fs.toList.map fun f => (f.offset, f.type)) | _ => []) = some [(0, 3), (1, 3), (2, 3)] := by kernel_rfl
  cases hq : Try.prog.underlying 23 with
  | none => rw [hq] at h; simp at h
  | some d =>
    rw [hq] at h
    cases d with
    | struct fs =>
      obtain ⟨l⟩ := fs
      have h2 : l.map (fun f => (f.offset, f.type)) = [(0, 3), (1, 3), (2, 3)] := by simpa using h
      have hlen : l.length = 3 := by have := congrArg List.length h2; simpa using this
      match l, h2, hlen with
      | [f0, f1, f2], h2, _ =>
        simp only [List.map_cons, List.map_nil, List.cons.injEq, Prod.mk.injEq, and_true] at h2
        obtain ⟨⟨o0, t0⟩, ⟨o1, t1⟩, ⟨o2, t2⟩⟩ := h2
        exact ⟨f0, f1, f2, rfl, ⟨o0, o1, o2⟩, ⟨t0, t1, t2⟩⟩
    | _ => exact absurd (show ([] : List (Nat × TypeId)) = _ from Option.some.inj h) (by simp)
set_option maxRecDepth 100000 in
theorem struct_super : ∃ f0 f1 f2 f3 : Field, Try.prog.underlying 25 = some (.struct #[f0, f1, f2, f3]) ∧ (f0.offset = 0 ∧ f1.offset = 1 ∧ f2.offset = 2 ∧ f3.offset = 3) ∧ (f0.type = 3 ∧ f1.type = 3 ∧ f2.type = 3 ∧ f3.type = 23) := by
  have h : (Try.prog.underlying 25).map (fun d => match d with | .struct fs => (fs.toList.map fun f => (f.offset, f.type)) | _ => []) = some [(0, 3), (1, 3), (2, 3), (3, 23)] := by kernel_rfl
  cases hq : Try.prog.underlying 25 with
  | none => rw [hq] at h; simp at h
  | some d =>
    rw [hq] at h
    cases d with
    | struct fs =>
      obtain ⟨l⟩ := fs
      have h2 : l.map (fun f => (f.offset, f.type)) = [(0, 3), (1, 3), (2, 3), (3, 23)] := by simpa using h
      have hlen : l.length = 4 := by have := congrArg List.length h2; simpa using this
      match l, h2, hlen with
      | [f0, f1, f2, f3], h2, _ =>
        simp only [List.map_cons, List.map_nil, List.cons.injEq, Prod.mk.injEq, and_true] at h2
        obtain ⟨⟨o0, t0⟩, ⟨o1, t1⟩, ⟨o2, t2⟩, ⟨o3, t3⟩⟩ := h2
        exact ⟨f0, f1, f2, f3, rfl, ⟨o0, o1, o2, o3⟩, ⟨t0, t1, t2, t3⟩⟩
    | _ => exact absurd (show ([] : List (Nat × TypeId)) = _ from Option.some.inj h) (by simp)
theorem cells_part : Try.prog.cellsOf 23 = 3 := by kernel_rfl
theorem cells_super : Try.prog.cellsOf 25 = 6 := by kernel_rfl
theorem trod_st3 {H : Type} {enc : TypeId × Value → H} {P : Program} {w : World} {base : Nat} {spare : Nat → Bool} {held : Bool} {t : TypeId} {f0 f1 f2 : Field} {fuel : Nat} {cs : List Value} {x : DataW H × List MemPlace} (ht : P.underlying t = some (.struct #[f0, f1, f2])) (h : DataW.trod enc P w base spare held fuel t cs = some x) :
    ∃ (y0 y1 y2 : DataW H × List MemPlace) (n : Nat), cs.length = P.cellsOf t ∧ DataW.trod enc P w base spare held n f0.type ((cs.drop f0.offset).take (P.cellsOf f0.type)) = some y0 ∧ DataW.trod enc P w base spare held n f1.type ((cs.drop f1.offset).take (P.cellsOf f1.type)) = some y1 ∧ DataW.trod enc P w base spare held n f2.type ((cs.drop f2.offset).take (P.cellsOf f2.type)) = some y2 := by
  obtain ⟨xs, n, _, rfl, hl, hlen, hf⟩ := DataW.trod_struct ht h
  match xs, hlen with
  | [y0, y1, y2], _ => exact ⟨y0, y1, y2, n, hl, by simpa using hf 0 f0 rfl, by simpa using hf 1 f1 rfl, by simpa using hf 2 f2 rfl⟩
set_option maxRecDepth 100000 in
theorem open_part3 {H : Type} {enc : TypeId × Value → H} {w : World} {base : Nat} {spare : Nat → Bool} {held : Bool} {fuel : Nat} {u0 u1 u2 : Value} {y : DataW H × List MemPlace} (h : DataW.trod enc Try.prog w base spare held fuel 23 [u0, u1, u2] = some y) :
    ∃ x0 x1 x2 : Int, u0 = .int .i64 x0 ∧ u1 = .int .i64 x1 ∧ u2 = .int .i64 x2 ∧ inI64 x0 ∧ inI64 x1 ∧ inI64 x2 := by
  obtain ⟨f0, f1, f2, hs, ⟨o0, o1, o2⟩, t0, t1, t2⟩ := struct_part
  obtain ⟨y0, y1, y2, n, hl, g0, g1, g2⟩ := trod_st3 hs h
  rw [o0, t0, cells_int1] at g0
  rw [o1, t1, cells_int1] at g1
  rw [o2, t2, cells_int1] at g2
  simp [Value.cells] at g0 g1 g2
  obtain ⟨x0, k0, i0⟩ := open_i64 (w := w) Try.underlying3 g0
  obtain ⟨x1, k1, i1⟩ := open_i64 (w := w) Try.underlying3 g1
  obtain ⟨x2, k2, i2⟩ := open_i64 (w := w) Try.underlying3 g2
  exact ⟨x0, x1, x2, by have := k0; simpa [Kd.int, Kd.scalar] using this, by have := k1; simpa [Kd.int, Kd.scalar] using this, by have := k2; simpa [Kd.int, Kd.scalar] using this, i0, i1, i2⟩
set_option maxRecDepth 100000 in
open Go.Lib in
theorem open_super {H : Type} {enc : TypeId × Value → H} {w : World} {base : Nat} {spare : Nat → Bool} {held : Bool} {r : Reach} {b0 : Nat} {v : Value} {d : DataW H} {p : List MemPlace} (hv : Value.okWide Try.prog w r b0 25 v) (h : DataW.Trod enc Try.prog w base spare held 25 v d p) :
    ∃ (x0 x1 x2 x3 x4 x5 : Int), v = .agg #[.int .i64 x0, .int .i64 x1, .int .i64 x2, .int .i64 x3, .int .i64 x4, .int .i64 x5] ∧ inI64 x0 ∧ inI64 x1 ∧ inI64 x2 ∧ inI64 x3 ∧ inI64 x4 ∧ inI64 x5 := by
  obtain ⟨f0, f1, f2, f3, hs, ⟨o0, o1, o2, o3⟩, t0, t1, t2, t3⟩ := struct_super
  obtain ⟨cs, rfl, hsz⟩ := okWide_struct hs hv
  rw [cells_super] at hsz
  obtain ⟨u0, u1, u2, u3, u4, u5, rfl⟩ : ∃ c0 c1 c2 c3 c4 c5, cs = #[c0, c1, c2, c3, c4, c5] := by
    obtain ⟨l⟩ := cs
    match l, hsz with
    | [c0, c1, c2, c3, c4, c5], _ => exact ⟨c0, c1, c2, c3, c4, c5, rfl⟩
  obtain ⟨fuel, hf⟩ := h
  obtain ⟨y0, y1, y2, y3, n, hl, g0, g1, g2, g3⟩ := trod_st4 hs hf
  rw [o0, t0, cells_int1] at g0
  rw [o1, t1, cells_int1] at g1
  rw [o2, t2, cells_int1] at g2
  rw [o3, t3, cells_part] at g3
  simp [Value.cells] at g0 g1 g2 g3
  obtain ⟨x0, k0, i0⟩ := open_i64 (w := w) Try.underlying3 g0
  obtain ⟨x1, k1, i1⟩ := open_i64 (w := w) Try.underlying3 g1
  obtain ⟨x2, k2, i2⟩ := open_i64 (w := w) Try.underlying3 g2
  obtain ⟨x3, x4, x5, e3, e4, e5, i3, i4, i5⟩ := open_part3 g3
  have e0 : u0 = .int .i64 x0 := by have := k0; simpa [Kd.int, Kd.scalar] using this
  have e1 : u1 = .int .i64 x1 := by have := k1; simpa [Kd.int, Kd.scalar] using this
  have e2 : u2 = .int .i64 x2 := by have := k2; simpa [Kd.int, Kd.scalar] using this
  subst e0 e1 e2 e3 e4 e5
  exact ⟨x0, x1, x2, x3, x4, x5, rfl, i0, i1, i2, i3, i4, i5⟩
end Op
end Go.Proofs.Ytopfjmeejpamjaa
end
section
namespace Go.Proofs.Ytopfjmeejpamjaa
set_option linter.unusedVariables false
set_option linter.unusedSimpArgs false
set_option linter.ambiguousOpen false
open Go.RowKit Go.Proofs.YtopfjmeejpamjaaW.PrintWords Go.Proofs.YtopfjmeejpamjaaW.PrintLast Go.Proofs.YtopfjmeejpamjaaW.PrintMore
namespace Op
open PDiskDoes PSuper Go.ChangeShapes Go.WideShapes
theorem struct_deed : ∃ f0 f1 f2 f3 f4 : Field, Try.prog.underlying 61 = some (.struct #[f0, f1, f2, f3, f4]) ∧ (f0.offset = 0 ∧ f1.offset = 1 ∧ f2.offset = 2 ∧ f3.offset = 3 ∧ f4.offset = 4) ∧ (f0.type = 3 ∧ f1.type = 3 ∧ f2.type = 26 ∧ f3.type = 4 ∧ f4.type = 37) := by
  have h : (Try.prog.underlying 61).map (fun d => match d with | .struct fs => (fs.toList.map fun f => (f.offset, f.type)) | _ => []) = some [(0, 3), (1, 3), (2, 26), (3, 4), (4, 37)] := by kernel_rfl
  cases hq : Try.prog.underlying 61 with
  | none => rw [hq] at h; simp at h
  | some d =>
    rw [hq] at h
    cases d with
    | struct fs =>
      obtain ⟨l⟩ := fs
      have h2 : l.map (fun f => (f.offset, f.type)) = [(0, 3), (1, 3), (2, 26), (3, 4), (4, 37)] := by simpa using h
      have hlen : l.length = 5 := by have := congrArg List.length h2; simpa using this
      match l, h2, hlen with
      | [f0, f1, f2, f3, f4], h2, _ =>
        simp only [List.map_cons, List.map_nil, List.cons.injEq, Prod.mk.injEq, and_true] at h2
        obtain ⟨⟨o0, t0⟩, ⟨o1, t1⟩, ⟨o2, t2⟩, ⟨o3, t3⟩, ⟨o4, t4⟩⟩ := h2
        exact ⟨f0, f1, f2, f3, f4, rfl, ⟨o0, o1, o2, o3, o4⟩, ⟨t0, t1, t2, t3, t4⟩⟩
    | _ => exact absurd (show ([] : List (Nat × TypeId)) = _ from Option.some.inj h) (by simp)
theorem cells_deed : Try.prog.cellsOf 61 = 5 := by kernel_rfl
theorem struct_calm : ∃ f0 f1 f2 f3 : Field, Try.prog.underlying 39 = some (.struct #[f0, f1, f2, f3]) ∧ (f0.offset = 0 ∧ f1.offset = 1 ∧ f2.offset = 2 ∧ f3.offset = 3) ∧ (f0.type = 36 ∧ f1.type = 36 ∧ f2.type = 3 ∧ f3.type = 37) := by
  have h : (Try.prog.underlying 39).map (fun d => match d with | .struct fs => (fs.toList.map fun f => (f.offset, f.type)) | _ => []) = some [(0, 36), (1, 36), (2, 3), (3, 37)] := by kernel_rfl
  cases hq : Try.prog.underlying 39 with
  | none => rw [hq] at h; simp at h
  | some d =>
    rw [hq] at h
    cases d with
    | struct fs =>
      obtain ⟨l⟩ := fs
      have h2 : l.map (fun f => (f.offset, f.type)) = [(0, 36), (1, 36), (2, 3), (3, 37)] := by simpa using h
      have hlen : l.length = 4 := by have := congrArg List.length h2; simpa using this
      match l, h2, hlen with
      | [f0, f1, f2, f3], h2, _ =>
        simp only [List.map_cons, List.map_nil, List.cons.injEq, Prod.mk.injEq, and_true] at h2
        obtain ⟨⟨o0, t0⟩, ⟨o1, t1⟩, ⟨o2, t2⟩, ⟨o3, t3⟩⟩ := h2
        exact ⟨f0, f1, f2, f3, rfl, ⟨o0, o1, o2, o3⟩, ⟨t0, t1, t2, t3⟩⟩
    | _ => exact absurd (show ([] : List (Nat × TypeId)) = _ from Option.some.inj h) (by simp)
theorem cells_calm : Try.prog.cellsOf 39 = 4 := by kernel_rfl
theorem cells_bool : Try.prog.cellsOf 4 = 1 := by kernel_rfl
theorem cells_ints1 : Try.prog.cellsOf 37 = 1 := by kernel_rfl
theorem cells_deeds : Try.prog.cellsOf 36 = 1 := by kernel_rfl
section
variable {H : Type} {enc : TypeId × Value → H} {w : World} {base : Nat} {spare : Nat → Bool} {held : Bool}
set_option maxRecDepth 100000 in
theorem open_deed {fuel : Nat} {cs : List Value} {y : DataW H × List MemPlace} (h : DataW.trod enc Try.prog w base spare held fuel 61 cs = some y) :
    ∃ x : S61, k61.K w x cs ∧ ((∀ z ∈ x.f2, in8 z) ∧ inI64 x.f1) := by
  obtain ⟨f0, f1, f2, f3, f4, hs, ⟨o0, o1, o2, o3, o4⟩, t0, t1, t2, t3, t4⟩ := struct_deed
  obtain ⟨y0, y1, y2, y3, y4, n, hl, g0, g1, g2, g3, g4⟩ := trod_st5 hs h
  rw [cells_deed] at hl
  match cs, hl with
  | [u0, u1, u2, u3, u4], _ =>
    rw [o0, t0, cells_int1] at g0
    rw [o1, t1, cells_int1] at g1
    rw [o2, t2, cells_u8s] at g2
    rw [o3, t3, cells_bool] at g3
    rw [o4, t4, cells_ints1] at g4
    simp at g0 g1 g2 g3 g4
    obtain ⟨x0, k0, _⟩ := open_i64 (w := w) Try.underlying3 g0
    obtain ⟨x1, k1, i1⟩ := open_i64 (w := w) Try.underlying3 g1
    obtain ⟨x2, ⟨A2, c2, k2, hc2, hC2⟩, i2⟩ := open_u8s g2
    obtain ⟨x3, k3, _⟩ := DataW.trod_bool Try.underlying4 g3
    obtain ⟨x4, ⟨A4, c4, k4, hc4, hC4⟩, i4⟩ := open_i64s Try.underlying37 Try.underlying3 cells_int1 g4
    have e0 : u0 = .int .i64 x0 := by have := k0; simpa [Kd.int, Kd.scalar] using this
    have e1 : u1 = .int .i64 x1 := by have := k1; simpa [Kd.int, Kd.scalar] using this
    have e2 : u2 = .slice A2 x2.length c2 := by simpa using k2
    have e3 : u3 = .bool x3 := by simpa using k3
    have e4 : u4 = .slice A4 x4.length c4 := by simpa using k4
    subst e0 e1 e2 e3 e4
    exact ⟨⟨x0, x1, x2, x3, x4⟩, k61_mk w ⟨x0, x1, x2, x3, x4⟩ hc2 hC2 hc4 hC4, i2, i1⟩
theorem open_deedrow {fuel : Nat} {cs : List Value} {y : DataW H × List MemPlace} (h : DataW.trod enc Try.prog w base spare held fuel 36 cs = some y) :
    ∃ (A : Option Addr) (c : Nat) (ys : List S61), cs = [.slice A ys.length c] ∧ ys.length ≤ c ∧ Disk.Came w A ys := by
  obtain ⟨A', c', ys, e, h1, h2, h3, _⟩ := open_rows k61 (fun y => (∀ z ∈ y.f2, in8 z) ∧ inI64 y.f1) Try.underlying36 cells_deed (fun fuel cs y h => open_deed h) h
  exact ⟨A', c', ys, e, h1, h2, fun y hy => ⟨(h3 y hy).1, (h3 y hy).2.2⟩⟩
set_option maxRecDepth 100000 in
open Go.Lib in
theorem open_calm {r : Reach} {b0 : Nat} {v : Value} {d : DataW H} {p : List MemPlace} (hv : Value.okWide Try.prog w r b0 39 v) (h : DataW.Trod enc Try.prog w base spare held 39 v d p) :
    ∃ (AL : Option Addr) (cL : Nat) (ls : List S61) (AK : Option Addr) (cK : Nat) (ks : List S61) (n : Int) (AM : Option Addr) (cM : Nat) (ms : List Int), v = .agg #[.slice AL ls.length cL, .slice AK ks.length cK, .int .i64 n, .slice AM ms.length cM] ∧ ls.length ≤ cL ∧ Disk.Came w AL ls ∧ ks.length ≤ cK ∧ Disk.Came w AK ks ∧ inI64 n ∧ Kd.C (Kd.int .i64) w AM ms.length ms ∧ ms.length ≤ cM := by
  obtain ⟨f0, f1, f2, f3, hs, ⟨o0, o1, o2, o3⟩, t0, t1, t2, t3⟩ := struct_calm
  obtain ⟨cs, rfl, hsz⟩ := okWide_struct hs hv
  rw [cells_calm] at hsz
  obtain ⟨u0, u1, u2, u3, rfl⟩ : ∃ c0 c1 c2 c3, cs = #[c0, c1, c2, c3] := by
    obtain ⟨l⟩ := cs
    match l, hsz with
    | [c0, c1, c2, c3], _ => exact ⟨c0, c1, c2, c3, rfl⟩
  obtain ⟨fuel, hf⟩ := h
  obtain ⟨y0, y1, y2, y3, n, hl, g0, g1, g2, g3⟩ := trod_st4 hs hf
  rw [o0, t0, cells_deeds] at g0
  rw [o1, t1, cells_deeds] at g1
  rw [o2, t2, cells_int1] at g2
  rw [o3, t3, cells_ints1] at g3
  simp [Value.cells] at g0 g1 g2 g3
  obtain ⟨AL, cL, ls, e0, h0, k0⟩ := open_deedrow g0
  obtain ⟨AK, cK, ks, e1, h1, k1⟩ := open_deedrow g1
  obtain ⟨x2, k2, i2⟩ := open_i64 (w := w) Try.underlying3 g2
  obtain ⟨x3, ⟨A3, c3, k3, hc3, hC3⟩, i3⟩ := open_i64s Try.underlying37 Try.underlying3 cells_int1 g3
  have e2 : u2 = .int .i64 x2 := by have := k2; simpa [Kd.int, Kd.scalar] using this
  have e3 : u3 = .slice A3 x3.length c3 := by simpa using k3
  have e0' : u0 = .slice AL ls.length cL := by simpa using e0
  have e1' : u1 = .slice AK ks.length cK := by simpa using e1
  subst e0' e1' e2 e3
  exact ⟨AL, cL, ls, AK, cK, ks, x2, A3, c3, x3, rfl, h0, k0, h1, k1, i2, hC3, hc3⟩
end
end Op
end Go.Proofs.Ytopfjmeejpamjaa
end
