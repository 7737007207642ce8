/- Part 18 of the proof of ChainWrites: lemmas alone. -/
import Derived.Test.YtclneeamemofoaaGreatZChainWritesP16
import Derived.Below
import Derived.Lib.Hide
import Derived.OwnWalk
import Derived.WalkKit
import Derived.KernelRfl
import Derived.RowKit3
import Derived.Deep.LoopGhost
import Derived.Deep.QuietTactic
import Derived.BigQuiet
import Derived.WideLaws
import Derived.Great.BuildSlice
import Derived.Outline
import Derived.Deep.DeepCutAuto
import Derived.WalkSpells
import Derived.RegionTactic
import Derived.BigRegion
import Derived.WalkLawsBesides
section
namespace Go.Proofs.YtclneeamemofoaaGreat
set_option linter.unusedVariables false
set_option linter.unusedSimpArgs false
open Go.RowKit Go.Proofs.YtclneeamemofoaaGreatW.PrintWords Go.Proofs.YtclneeamemofoaaGreatW.PrintLast Go.Proofs.YtclneeamemofoaaGreatW.PrintMore
namespace Disk
open Go.Disk PDiskDoes PChain
theorem crashTo_stop : ∀ (ws : List (Int × List Int)) (ms : List Int) (D : Dk) (k : Nat), ms.length ≤ k → crashTo D (ws.take k) ms = crashTo D ws ms
  | [], ms, D, k, _ => by simp
  | p :: ws, [], D, k, _ => by
    cases k with
    | zero => rfl
    | succ k => rfl
  | p :: ws, m :: ms, D, 0, h => by simp at h
  | p :: ws, m :: ms, D, k + 1, h => crashTo_stop ws ms _ k (by simpa using h)
theorem crashTo_over (D : Dk) (ws : List (Int × List Int)) (ms : List Int) (i : Nat) (h : ms.length ≤ i) : crashTo D (ws.take (i + 1)) (ms.take (i + 1)) = crashTo D (ws.take i) (ms.take i) := by
  have e1 : ms.take i = ms := List.take_of_length_le h
  have e2 : ms.take (i + 1) = ms := List.take_of_length_le (by omega)
  rw [e1, e2, crashTo_stop ws ms D i h, crashTo_stop ws ms D (i + 1) (by omega)]
theorem crashTo_end : ∀ (ws : List (Int × List Int)) (ms : List Int) (D : Dk), crashTo D ws (ms.take ws.length) = crashTo D ws ms
  | [], ms, D => by cases ms <;> rfl
  | p :: ws, [], D => rfl
  | p :: ws, m :: ms, D => crashTo_end ws ms _
set_option maxHeartbeats 8000000 in
set_option maxRecDepth 100000 in
theorem xcrash_any {w : World} {base sb xb : Nat} {D : Dk} (h : RD w base sb xb D) (A : Option Addr) (c : Nat) (ms : List Int) (hC : Kd.C (Kd.int .i64) w A ms.length ms) (hCs : ∀ x, FX base xb w x → Kd.C (Kd.int .i64) x A ms.length ms) :
    Calls Tryz.prog 36 #[.pointer (some ⟨xb, 0, none⟩), .slice A ms.length c] w fun e w' => (∃ v, e = .returned v) ∧ RD w' base sb xb (crashD D ms) ∧ FX base xb w w' := by
  obtain ⟨vs, vw, hx⟩ := h
  obtain ⟨g, cap, rfl, _⟩ := Kd.R_form hx.safe (by have := hx.ok.few; omega)
  obtain ⟨AW, cW, rfl, hcW, hCW⟩ := Kd.R_reads hx.waits
  have hwb : D.waits.length ≤ 9223372036854775807 := hCW.2.1
  clear hCW
  have hsl := (Kd.R_reads' hx.safe).1
  rw [hsl] at hx
  have HX := Aside0.mk (show RDx w base sb xb (crashTo D (D.waits.take 0) (ms.take 0)) (.slice (some ⟨g, 0, none⟩) D.safe.length cap) (.slice AW D.waits.length cW) by simpa [crashTo] using hx)
  have HC := Aside0.mk hCs
  have HCAP := Aside0.mk (Kd.R_reads' hx.safe).2.1
  have HOK := Aside0.mk hx.ok
  have hmb : ms.length ≤ 9223372036854775807 := hC.2.1
  clear hx hsl hC hCs
  go_enter Tryz.func36, Tryz.ntmps36
  go_wp2_with fail
  go_loopg [4, 5] D.waits.length (fun gg v4 v5 wr => ∃ (i : Nat), Aside0 (i + gg = D.waits.length) ∧ v4 = .int .i64 i ∧ Aside0 (RDx wr base sb xb (crashTo D (D.waits.take i) (ms.take i)) (.slice (some ⟨g, 0, none⟩) D.safe.length cap) (.slice AW D.waits.length cW)) ∧ Aside0 (FX base xb w wr))
  case atStart => exact ⟨0, ⟨by omega⟩, rfl, HX, ⟨Fr.refl _ _ _⟩⟩
  case round =>
    clear HX
    obtain ⟨i, HI, rfl, HX, HF⟩ := hrel
    have c1 : wr.cell? ⟨xb, 1, none⟩ = some (.slice AW D.waits.length cW) := cell_blk HX.out.cells
    obtain ⟨hcs, hcw⟩ := crashTo_safe (D.waits.take i) (ms.take i) D
    have HCS := Aside0.mk hcs
    have HCW := Aside0.mk hcw
    clear hcs hcw
    by_cases hi : i < D.waits.length
    · have hwt := HX.out.waits
      rw [HCW.out] at hwt
      obtain ⟨g1, cap1, vb, hvw, hw0, hw1, hwr, hgs, hgl, _⟩ := W_at hwt i hi
      cases hvw
      have hat := HOK.out.at_ D.waits[i] (List.getElem_mem hi)
      have HNX := Aside0.mk (fun h2 => crashTo_next D D.waits ms i hi h2)
      obtain ⟨N, hN⟩ : ∃ N, N = D.waits[i].1 := ⟨_, rfl⟩
      obtain ⟨bs, hbs⟩ : ∃ bs, bs = D.waits[i].2 := ⟨_, rfl⟩
      rw [← hN, ← hbs] at hat
      rw [← hN] at hw0
      rw [← hbs] at hwr
      rw [← hN, ← hbs] at HNX
      clear hN hbs hwt
      obtain ⟨n, hn⟩ : ∃ n : Nat, N = n := ⟨N.toNat, by have := hat.1; omega⟩
      subst hn
      obtain ⟨ab, cb, rfl⟩ := Kd.R_slice hwr
      have hnl : n < D.safe.length := by have := hat.2.1; omega
      have HWR := Aside0.mk hwr
      have HAT := Aside0.mk hat
      clear hwr hat
      by_cases him : i < ms.length
      · have hNX := HNX.out him
        rw [Int.toNat_natCast] at hNX
        obtain ⟨C, hCC⟩ : ∃ C, C = crashTo D (D.waits.take i) (ms.take i) := ⟨_, rfl⟩
        rw [← hCC] at HX hNX HCS HCW
        have HNXX := Aside0.mk hNX
        clear HNX hNX hCC
        have hnC : n < C.safe.length := by have := HCS.out; omega
        obtain ⟨g', cap', A', c', h1, hcell, hR, _, hgl', _, _⟩ := S_at HX.out.safe n hnC
        obtain rfl : g = g' := by injection h1 with ha; injection ha with ha; injection ha
        have hl' := HX.out.ok.len _ (List.getElem_mem hnC)
        have hby' := HX.out.ok.byte _ (List.getElem_mem hnC)
        obtain ⟨was, hwas⟩ : ∃ was, was = C.safe[n] := ⟨_, rfl⟩
        rw [← hwas] at hcell hR hl' hby'
        have HWAS := Aside0.mk hwas
        obtain ⟨cells, hg⟩ := own_typed (Kd.R_own HX.out.safe).choose_spec g (by simp [Value.ownBlock])
        have HG := Aside0.mk hg
        have HRW := Aside0.mk hR
        have HLB := Aside0.mk (show was.length = 256 ∧ ∀ x ∈ was, 0 ≤ x ∧ x ≤ 255 from ⟨hl', hby'⟩)
        have c0 : wr.cell? ⟨xb, 0, none⟩ = some (.slice (some ⟨g, 0, none⟩) D.safe.length cap) := cell_blk HX.out.cells
        have hfew := HOK.out.few
        clear hR hwas hg hl' hby'
        go_wp2_with fail
        obtain ⟨V, hV⟩ : ∃ V, V = wr.alloc (.cells #[.int .i64 n, .slice ab bs.length cb] 106) := ⟨_, rfl⟩
        have hal : Below wr.heap.size wr V := by rw [hV]; exact (Below.refl _ _).alloc (Nat.le_refl _) _
        have hbx : V.heap[wr.heap.size]? = some (.cells #[.int .i64 n, .slice ab bs.length cb] 106 (0, 0)) := by rw [hV]; exact heap_alloc_new wr _
        have HXB := Aside0.mk (blk_lt HX.out.cells)
        have HAL := Aside0.mk (hal.trans (below_drew1 (Below.refl _ _)))
        have HXV := Aside0.mk (HX.out.below HAL.out)
        have HFV := Aside0.mk (HF.out.trans (Fr.of_below (bs := fun k => k = xb) (ts := fun k t => base ≤ k ∧ (t = 39 ∨ t = 106)) HAL.out))
        rw [← hV]
        obtain ⟨am, ham, hcm⟩ := Kd.at_int (HC.out _ HFV.out) (i : Int) (by omega) (by omega)
        subst ham
        rw [Int.toNat_natCast] at hcm
        obtain ⟨mk, hmk⟩ : ∃ mk, mk = rd ms i := ⟨_, rfl⟩
        have HMK := Aside0.mk (show mk = ms[i] by rw [hmk]; unfold rd; simp [him])
        rw [← hmk] at hcm
        have hk0 : V.drew.cell? ⟨xb, 0, none⟩ = some (.slice (some ⟨g, 0, none⟩) D.safe.length cap) := cell_blk HXV.out.cells
        have hk4 : V.drew.cell? ⟨g, n, none⟩ = some (.slice A' was.length c') := (World.cell?_of_block (w := wr) (HAL.out.block g hgl')).trans hcell
        have HMKR := Aside0.mk hmk
        have HFV0 := Aside0.mk (HF.out.trans (Fr.of_below (bs := fun k => k = xb) (ts := fun k t => base ≤ k ∧ (t = 39 ∨ t = 106)) hal))
        clear hmk hal hcell c0 c1 hw0 hw1
        have hVs : wr.heap.size < V.heap.size := by rw [hV]; simp
        have hm0 : ∀ m : Go.Reg.In (Below V.heap.size V), m.w.cell? ⟨xb, 0, none⟩ = some (.slice (some ⟨g, 0, none⟩) D.safe.length cap) := fun m => by rw [m.h.cell (p := ⟨xb, 0, none⟩) (Nat.lt_trans HXB.out hVs)]; exact hk0
        have hm1 : ∀ m : Go.Reg.In (Below V.heap.size V), m.w.cell? ⟨wr.heap.size, 0, none⟩ = some (.int .i64 n) := fun m => by rw [m.h.cell (p := ⟨wr.heap.size, 0, none⟩) hVs]; exact cell_blk (w := V) hbx
        have hm2 : ∀ m : Go.Reg.In (Below V.heap.size V), m.w.cell? ⟨wr.heap.size, 1, none⟩ = some (.slice ab bs.length cb) := fun m => by rw [m.h.cell (p := ⟨wr.heap.size, 1, none⟩) hVs]; exact cell_blk (w := V) hbx
        have hm3 : ∀ m : Go.Reg.In (Below V.heap.size V), m.w.cell? (am.add i) = some (.int .i64 mk) := fun m => by
          obtain ⟨am', ham, hcm⟩ := Kd.at_int (HC.out m.w (HFV0.out.trans (Fr.of_below m.h))) (i : Int) (by omega) (by omega)
          cases ham
          rw [Int.toNat_natCast, ← HMKR.out] at hcm
          exact hcm
        have hm4 : ∀ m : Go.Reg.In (Below V.heap.size V), m.w.cell? ⟨g, n, none⟩ = some (.slice A' was.length c') := fun m => by rw [m.h.cell (p := ⟨g, n, none⟩) (Nat.lt_trans hgl' hVs)]; exact hk4
        clear hV hVs
        refine Go.Reg.region (Below V.heap.size V) [.s, .s, .s, .s, .s, .s, .s, .s, .s, .s, .s, .s, .s, .s, .s, .s, .s, .s, .s, .s, .w, .p, .x] (by kernel_rfl) (by kernel_rfl) (below_drew1 (Below.refl _ _)) (fun ne => ?_)
        refine Go.Reg.lex_q 20 _ _ _ _ (by rfl) ?_; simp only [List.take_succ_cons, List.take_zero, List.drop_succ_cons, List.drop_zero]; (repeat (go_big_quiet_step (rfl))); refine wpQuiet_nil ?_
        refine Go.Reg.step_w (fun K hK => ?_)
        clear hm0 hm1 hm2 hm3 hm4 hk0 hk4 hcm hbx
        go_wp2_with fail
        refine (chantryref06_torn.calls 5 A' c' was ab cb bs mk _ V.drew (Kd.R_reads' (Kd.R_below HRW.out HAL.out)).2.2 (Kd.R_reads' HRW.out).2.1 (Kd.R_reads' (Kd.R_below HWR.out HAL.out)).2.2 (Kd.R_reads' HWR.out).2.1 (torn_plain was bs mk HLB.out.1 HAT.out.2.2.1)).mono ?_
        rintro e w5 ⟨v5, rfl, hr5, b5⟩
        obtain ⟨A5, c5, rfl⟩ := Kd.R_slice hr5
        have HX5 := Aside0.mk (HXV.out.below b5)
        have hsz : sb < V.drew.heap.size := HXV.out.slt
        rw [← HCS.out] at HX5
        have HPUT := Aside0.mk (put_safe HX5.out n hnC _ _ (tornTo_len _ _ _ HLB.out.1 HAT.out.2.2.1 4 (Nat.le_refl _)) (tornTo_byte _ _ _ HLB.out.2 HAT.out.2.2.2 4) (Kd.R_mono (Kd.R_lower (Kd.R_bound hr5) (Nat.zero_le _)) (fun k hk => by have := hk.2.1; omega)))
        have HF5 := Aside0.mk (HFV.out.trans (Fr.of_below (bs := fun k => k = xb) (ts := fun k t => base ≤ k ∧ (t = 39 ∨ t = 106)) b5))
        have hg5 := (b5.block g (Nat.lt_of_lt_of_le hgl' HAL.out.size)).trans ((HAL.out.block g hgl').trans HG.out)
        have fg : w5.frozen? ⟨g, n, none⟩ = false := frozen_blk hg5
        obtain ⟨vold, hold⟩ : ∃ vold, w5.cell? ⟨g, n, none⟩ = some vold := by
          obtain ⟨g', cap', A', c', h1, h2, _⟩ := S_at HX5.out.safe n hnC
          obtain rfl : g = g' := by injection h1 with ha; injection ha with ha; injection ha
          exact ⟨_, h2⟩
        have HB5 := Aside0.mk (show Below V.heap.size V w5 from (below_drew1 (Below.refl _ _)).trans b5)
        clear hr5 b5 hg5
        go_wp2_with fail
        refine hK.out _ _ HB5.out ?_
        clear hK K
        try simp only [Act.put, List.setIfInBounds_toArray, List.set_cons_succ, List.set_cons_zero]
        refine Go.Reg.lex_qp 1 _ _ _ _ _ (by rfl) ?_; simp only [List.take_succ_cons, List.take_zero, List.drop_succ_cons, List.drop_zero]; (repeat (go_big_quiet_step (rfl))); refine wpQuiet_nil ?_
        refine Go.Reg.step_x (by rfl) (fun K hK => ?_)
        go_wp2_with fail
        refine hK.out _ _ ?_
        clear hK K
        refine Go.Reg.lex_nil ?_
        go_wp2_with fail
        go_roundg (gk - 1)
        case measure => have := HI.out; omega
        case rel => exact ⟨i + 1, ⟨by have := HI.out; omega⟩, by go_num, ⟨by
          have h1 := HPUT.out.1
          rw [HCS.out] at h1
          rw [HNXX.out]
          unfold tearD
          rw [getD_get n hnC, ← HWAS.out, ← HMK.out]
          exact h1⟩, ⟨HF5.out.trans HPUT.out.2⟩⟩
      · have HOV := Aside0.mk (crashTo_over D D.waits ms i (by omega))
        have HXV := Aside0.mk (HX.out.below ((Below.refl _ _).alloc (Nat.le_refl _) (.cells #[.int .i64 n, .slice ab bs.length cb] 106)))
        have HFV := Aside0.mk (HF.out.trans (Fr.of_below (bs := fun k => k = xb) (ts := fun k t => base ≤ k ∧ (t = 39 ∨ t = 106)) ((Below.refl _ _).alloc (Nat.le_refl _) (.cells #[.int .i64 n, .slice ab bs.length cb] 106))))
        go_wp2_with fail
        go_roundg (gk - 1)
        case measure => have := HI.out; omega
        case rel => exact ⟨i + 1, ⟨by have := HI.out; omega⟩, by go_num, ⟨by rw [HOV.out]; exact HXV.out⟩, HFV⟩
    · have hin : i = D.waits.length := by have := HI.out; omega
      subst hin
      rw [List.take_length, crashTo_end] at HX
      have f1 : wr.frozen? ⟨xb, 1, none⟩ = false := frozen_blk HX.out.cells
      have f2 : wr.frozen? ⟨xb, 2, none⟩ = false := frozen_blk HX.out.cells
      have f3 : wr.frozen? ⟨xb, 3, none⟩ = false := frozen_blk HX.out.cells
      have c2 : wr.cell? ⟨xb, 2, none⟩ = some (.int .i64 (crashTo D D.waits ms).left) := cell_blk HX.out.cells
      have c3 : wr.cell? ⟨xb, 3, none⟩ = some (.bool (crashTo D D.waits ms).off) := cell_blk HX.out.cells
      go_wp2_with fail
      go_end0
      have hx := HX.out
      have hb3 := blk_set (blk_set (blk_set hx.cells 1 (.slice none 0 0)) 3 (.bool false)) 2 (.int .i64 (-1))
      have hb2 := blk_set (blk_set hx.cells 1 (.slice none 0 0)) 3 (.bool false)
      have hb1 := blk_set hx.cells 1 (.slice none 0 0)
      refine ⟨⟨_, rfl⟩, ⟨_, .slice none 0 0, calm_ok hx.ok, hx.xbase, by simpa [World.setCell] using hx.slt, hx.sown, fun _ h => by simp [Value.ownBlock] at h, ?_, Kd.R_set (Kd.R_set (Kd.R_set hx.safe hx.cells (by decide) 1 _) hb1 (by decide) 3 _) hb2 (by decide) 2 _, Kd.R_nil _ _ _ _ _⟩, ?_⟩
      · rw [hb3]
        rfl
      · have q1 : FX base xb wr (wr.setCell ⟨xb, 1, none⟩ (.slice none 0 0)) := Fr.set _ _ _ _ rfl
        have q2 : FX base xb (wr.setCell ⟨xb, 1, none⟩ (.slice none 0 0)) ((wr.setCell ⟨xb, 1, none⟩ (.slice none 0 0)).setCell ⟨xb, 3, none⟩ (.bool false)) := Fr.set _ _ _ _ rfl
        exact HF.out.trans (q1.trans (q2.trans (Fr.set _ _ _ _ rfl)))
end Disk
end Go.Proofs.YtclneeamemofoaaGreat
namespace Go.Proofs.YtclneeamemofoaaGreat
set_option linter.unusedVariables false
set_option linter.unusedSimpArgs false
open Go.RowKit Go.Proofs.YtclneeamemofoaaGreatW.PrintWords Go.Proofs.YtclneeamemofoaaGreatW.PrintLast Go.Proofs.YtclneeamemofoaaGreatW.PrintMore
namespace Disk
open Go.Disk PDiskDoes PChain
set_option maxHeartbeats 8000000 in
set_option maxRecDepth 100000 in
theorem ximage_any {w : World} {base sb xb : Nat} {D : Dk} (h : RD w base sb xb D) (hfew : D.waits.length ≤ 1000000) :
    Calls Tryz.prog 40 #[.pointer (some ⟨xb, 0, none⟩)] w fun e w' => ∃ v, e = .returned v ∧ Kd.R (Kd.int .u8) 5 w' w.heap.size (fun _ => True) v (imageD D) ∧ Below w.heap.size w w' := by
  have HP := Aside0.mk h
  obtain ⟨vs, vw, hx⟩ := h
  obtain ⟨AS, cS, rfl⟩ := Kd.R_slice hx.safe
  have HX := Aside0.mk hx
  have HOK := Aside0.mk hx.ok
  have hn := hx.ok.few
  obtain ⟨n, hnn⟩ : ∃ n, n = D.safe.length := ⟨_, rfl⟩
  have HN := Aside0.mk hnn
  rw [← hnn] at hn HX
  clear hx hnn
  go_enter Tryz.func40, Tryz.ntmps40
  go_wp2_with fail
  go_loopg [4, 3] n (fun g v4 v3 wr => ∃ (i : Nat) (A : Option Addr) (c : Nat), Aside0 (i + g = n) ∧ v4 = .int .i64 i ∧ v3 = .slice A (imageTo D i).length c ∧ Aside0 (Kd.R (Kd.int .u8) 5 wr w.heap.size (fun _ => True) (.slice A (imageTo D i).length c) (imageTo D i)) ∧ Aside0 (Below w.heap.size w wr))
  case atStart => exact ⟨0, none, 0, ⟨by omega⟩, rfl, rfl, ⟨Kd.R_nil _ _ _ _ _⟩, ⟨Below.refl _ _⟩⟩
  case round =>
    obtain ⟨i, A, c, HI, rfl, rfl, HR, HB⟩ := hrel
    have HXR := Aside0.mk (HX.out.below HB.out)
    have c0 : wr.cell? ⟨xb, 0, none⟩ = some (.slice AS n cS) := cell_blk HXR.out.cells
    by_cases hi : i < n
    · go_wp2_with fail
      refine (xnow_any (HP.out.below HB.out) (i : Int) ⟨by omega, by rw [← HN.out]; omega⟩ hfew).mono ?_
      rintro e w2 ⟨a2, c2, rfl, hc2, hC2, b⟩
      have HC2 := Aside0.mk hC2
      have HR2 := Aside0.mk (Kd.R_below HR.out b)
      have HB2 := Aside0.mk (HB.out.trans (b.mono HB.out.size))
      clear hC2 b
      go_wp2_with ((with_reducible refine gate_builtin (b := .append) (xs := #[.tmp 14, .tmp 17]) rfl ?_); at_builtin; refine Hid.out ?_)
      refine Lib.hid ?_
      have hlen := imageTo_len HOK.out i (by rw [← HN.out]; omega)
      refine Kd.R_append_rows (Kd.int .u8) (Rr := (Kd.int .u8).K w2) (w0 := w) w.heap.size rfl (.tmp 14) (.tmp 17) 39 5 (.int .u8 0) 1 rfl Tryz.underlying39 infoU8 rfl (by decide) (by omega) (.slice A (imageTo D i).length c) (imageTo D i) (nowD D (i : Int)) (some a2) 256 c2 (fun _ => True) (fun _ => False) rfl rfl HR2.out HC2.out (fun x cs h => h) (fun _ hk => hk.elim) (fun _ _ => trivial) HB2.out HB2.out.size (by omega) ?_
      intro v3 w3 ho hb _ _
      obtain ⟨A3, c3, rfl⟩ := Kd.R_slice ho
      rw [← imageTo_next] at ho ⊢
      have HO := Aside0.mk ho
      have HB3 := Aside0.mk hb
      clear ho hb hlen c0
      go_wp2_with fail
      go_roundg (gk - 1)
      case measure => have := HI.out; omega
      case rel => exact ⟨i + 1, A3, c3, ⟨by have := HI.out; omega⟩, by go_num, rfl, HO, HB3⟩
    · have hin : i = n := by have := HI.out; omega
      subst hin
      go_wp2_with fail
      go_ret
      refine ⟨_, rfl, ?_, HB.out⟩
      unfold imageD
      rw [← HN.out]
      exact HR.out
theorem flat_next (l : List (List Int)) (i : Nat) (hi : i < l.length) : (l.take (i + 1)).flatten = (l.take i).flatten ++ l[i] := by
  rw [List.take_succ_eq_append_getElem hi, List.flatten_append, List.flatten_cons, List.flatten_nil, List.append_nil]
theorem flat_take_len {l : List (List Int)} (h : ∀ b ∈ l, b.length = 256) (i : Nat) (hi : i ≤ l.length) : (l.take i).flatten.length = i * 256 := by
  rw [flat_len (fun b hb => h b (List.mem_of_mem_take hb)), List.length_take, Nat.min_eq_left hi]
def sureTo (S : List (List Int)) (i : Nat) : List Int := (S.take i).flatten
set_option maxHeartbeats 8000000 in
set_option maxRecDepth 100000 in
theorem xsure_any {w : World} {base sb xb : Nat} {D : Dk} (h : RD w base sb xb D) :
    Calls Tryz.prog 42 #[.pointer (some ⟨xb, 0, none⟩)] w fun e w' => ∃ v, e = .returned v ∧ Kd.R (Kd.int .u8) 5 w' w.heap.size (fun _ => True) v D.safe.flatten ∧ Below w.heap.size w w' := by
  obtain ⟨vs, vw, hx⟩ := h
  obtain ⟨gs, cS, rfl, _⟩ := Kd.R_form hx.safe (by have := hx.ok.few; omega)
  have hl0 := (Kd.R_reads' hx.safe).1
  rw [hl0] at hx
  have HX := Aside0.mk hx
  have HOK := Aside0.mk hx.ok
  have hn := hx.ok.few
  obtain ⟨n, hnn⟩ : ∃ n, n = D.safe.length := ⟨_, rfl⟩
  have HN := Aside0.mk hnn
  rw [← hnn] at hn HX
  clear hx hnn hl0
  obtain ⟨S, hS⟩ : ∃ S, S = D.safe := ⟨_, rfl⟩
  have HS := Aside0.mk hS
  have HTL := Aside0.mk (show ∀ i, i ≤ n → (sureTo S i).length = i * 256 from fun i hi => flat_take_len (by rw [hS]; exact HOK.out.len) i (by rw [hS, ← HN.out]; exact hi))
  rw [← hS]
  clear hS
  go_enter Tryz.func42, Tryz.ntmps42
  go_wp2_with fail
  go_loopg [4, 3] n (fun g v4 v3 wr => ∃ (i : Nat) (A : Option Addr) (c : Nat), Aside0 (i + g = n) ∧ v4 = .int .i64 i ∧ v3 = .slice A (sureTo S i).length c ∧ Aside0 (Kd.R (Kd.int .u8) 5 wr w.heap.size (fun _ => True) (.slice A (sureTo S i).length c) (sureTo S i)) ∧ Aside0 (Below w.heap.size w wr))
  case atStart => exact ⟨0, none, 0, ⟨by omega⟩, rfl, rfl, ⟨Kd.R_nil _ _ _ _ _⟩, ⟨Below.refl _ _⟩⟩
  case round =>
    obtain ⟨i, A, c, HI, rfl, rfl, HR, HB⟩ := hrel
    have HXR := Aside0.mk (HX.out.below HB.out)
    have c0 : wr.cell? ⟨xb, 0, none⟩ = some (.slice (some ⟨gs, 0, none⟩) n cS) := cell_blk HXR.out.cells
    by_cases hi : i < n
    · have hiS : i < S.length := by rw [HS.out, ← HN.out]; exact hi
      have hsr := HXR.out.safe
      rw [← HS.out] at hsr
      obtain ⟨g', cap', A', c', h1, hcell, hRi, _, hgl, hcap, _⟩ := S_at hsr i hiS
      obtain rfl : gs = g' := by injection h1 with ha; injection ha with ha; injection ha
      have hli : S[i].length = 256 := by
        have := HOK.out.len S[i] (by rw [← HS.out]; exact List.getElem_mem hiS)
        exact this
      have hnc : n ≤ cS := (Kd.R_reads' HXR.out.safe).2.1
      have HNX := Aside0.mk (show sureTo S (i + 1) = sureTo S i ++ S[i] from flat_next S i hiS)
      obtain ⟨bi, hbi⟩ : ∃ bi, bi = S[i] := ⟨_, rfl⟩
      rw [← hbi] at hcell hRi hli HNX
      rw [hli] at hcell
      have HRI := Aside0.mk hRi
      have HLI := Aside0.mk hli
      clear hRi hbi hsr h1 hli
      have hw1 : (i : Int) < cS := by omega
      go_wp2_with ((with_reducible refine gate_builtin (b := .append) (xs := #[.tmp 14, .tmp 21]) rfl ?_); at_builtin; refine Hid.out ?_)
      refine Lib.hid ?_
      have hlen := HTL.out i (by omega)
      have hC := row_at HRI.out
      rw [HLI.out] at hC
      refine Kd.R_append_rows (Kd.int .u8) (Rr := (Kd.int .u8).K wr) (w0 := w) w.heap.size rfl (.tmp 14) (.tmp 21) 39 5 (.int .u8 0) 1 rfl Tryz.underlying39 infoU8 rfl (by decide) (by omega) (.slice A (sureTo S i).length c) (sureTo S i) bi A' 256 c' (fun _ => True) (fun _ => False) rfl rfl HR.out hC (fun x cs h => h) (fun _ hk => hk.elim) (fun _ _ => trivial) HB.out HB.out.size (by omega) ?_
      intro v3 w3 ho hb _ _
      obtain ⟨A3, c3, rfl⟩ := Kd.R_slice ho
      rw [← HNX.out] at ho ⊢
      have HO := Aside0.mk ho
      have HB3 := Aside0.mk hb
      clear ho hb hlen c0 hC hcell
      go_wp2_with fail
      go_roundg (gk - 1)
      case measure => have := HI.out; omega
      case rel => exact ⟨i + 1, A3, c3, ⟨by have := HI.out; omega⟩, by go_num, rfl, HO, HB3⟩
    · have hin : i = n := by have := HI.out; omega
      subst hin
      go_wp2_with fail
      go_ret
      refine ⟨_, rfl, ?_, HB.out⟩
      show Kd.R (Kd.int .u8) 5 wr w.heap.size (fun _ => True) (.slice A (sureTo S i).length c) S.flatten
      have e : sureTo S i = S.flatten := by unfold sureTo; rw [show S.take i = S by rw [HN.out, HS.out]; exact List.take_length]
      have := HR.out
      rw [e] at this ⊢
      exact this
end Disk
end Go.Proofs.YtclneeamemofoaaGreat
namespace Go.Proofs.YtclneeamemofoaaGreat
set_option linter.unusedVariables false
set_option linter.unusedSimpArgs false
open Go.RowKit Go.Proofs.YtclneeamemofoaaGreatW.PrintWords Go.Proofs.YtclneeamemofoaaGreatW.PrintLast Go.Proofs.YtclneeamemofoaaGreatW.PrintMore
namespace Disk
open Go.Disk PDiskDoes PChain
theorem infoB : (Tryz.prog.info? 39).map (fun i => (i.zero, i.size, i.bytes)) = some (some (.slice none 0 0), 1, 24) := by kernel_rfl
theorem seg_C {w : World} {a : Addr} {l : List Int} (h : Kd.C (Kd.int .u8) w (some a) l.length l) (i n : Nat) (hl : l.length = n * 256) (hi : i < n) : Kd.C (Kd.int .u8) w (some (a.add (256 * i))) (256 * i + 256 - 256 * i) ((l.drop (i * 256)).take 256) := by
  have hle : l.length ≤ 9223372036854775807 := h.2.1
  refine Kd.C_of_reads (enc := fun x => Value.int .u8 x) (d := (0:Int)) (h1 := fun _ => rfl) ⟨by rw [List.length_take, List.length_drop]; omega, by omega, fun _ => ⟨_, rfl, fun j hj => ?_⟩⟩
  obtain ⟨ad, e, hcell⟩ := Kd.at_int h ((256 * i + j : Nat) : Int) (by omega) (by omega)
  cases e
  rw [Int.toNat_natCast] at hcell
  rw [Go.Deep.add_add, hcell]
  unfold rd
  rw [Int.toNat_natCast, List.getD_eq_getElem?_getD, List.getD_eq_getElem?_getD, List.getElem?_take_of_lt (by omega), List.getElem?_drop, Nat.mul_comm 256 i]
theorem chunk_len (xs : List Int) (n i : Nat) (hl : xs.length = n * 256) (hi : i < n) : ((xs.drop (i * 256)).take 256).length = 256 := by rw [List.length_take, List.length_drop]; omega
theorem may_f (n : Int) (b : Bool) (h : b = decide (16 ≤ n ∧ n ≤ 1024)) : chantryref06_may.f n = some b := by
  subst h
  unfold chantryref06_may.f
  by_cases h0 : n ≥ 16
  · rw [if_pos h0]
    simp
    omega
  · rw [if_neg h0]
    simp
    omega
set_option maxHeartbeats 8000000 in
set_option maxRecDepth 100000 in
theorem xload_yes {w : World} (sb : Nat) (hsb : sb < w.heap.size) (a : Addr) (c : Nat) (xs : List Int) (n : Nat) (hl : xs.length = n * 256) (hn : 16 ≤ n ∧ n ≤ 1024) (hlc : xs.length ≤ c) (hC : Kd.C (Kd.int .u8) w (some a) xs.length xs) (hby : ∀ x ∈ xs, 0 ≤ x ∧ x ≤ 255) :
    Calls Tryz.prog 15 #[.slice (some a) xs.length c] w fun e w' => ∃ xb, e = .returned (.tuple #[.pointer (some ⟨xb, 0, none⟩), .int .i64 0]) ∧ RD w' w.heap.size sb xb (loadD xs n) ∧ Below w.heap.size w w' := by
  have HC := Aside0.mk hC
  have HOK := Aside0.mk (load_ok xs n hl hn hby)
  have HL := Aside0.mk hl
  obtain ⟨h1, h2⟩ := hn
  rw [hl] at hlc ⊢
  clear hC hby hl
  go_enter Tryz.func15, Tryz.ntmps15
  go_wp2_with fail
  refine (chantryref06_may.calls n true w (may_f _ _ (by rw [decide_eq_true]; omega))).mono ?_
  rintro e w1 ⟨rfl, ⟨k, rfl⟩⟩
  obtain ⟨w1, hw1⟩ : ∃ w1, w1 = w.drewN k := ⟨_, rfl⟩
  rw [← hw1]
  have HB := Aside0.mk (show Below w.heap.size w w1 by rw [hw1]; exact pw_below_drewN (Below.refl _ _) k)
  clear hw1
  go_wp2_with fail
  obtain ⟨w2, hw2⟩ : ∃ w2, w2 = w1.alloc (.cells #[.slice none 0 0, .slice none 0 0, .int .i64 (-1), .bool false, .int .i64 0, .int .i64 0, .int .i64 0] 79) := ⟨_, rfl⟩
  have hb2 : Below w.heap.size w w2 := by rw [hw2]; exact HB.out.alloc HB.out.size _
  have hc2 : w2.heap[w1.heap.size]? = some (.cells #[.slice none 0 0, .slice none 0 0, .int .i64 (-1), .bool false, .int .i64 0, .int .i64 0, .int .i64 0] 79 (0, 0)) := by rw [hw2]; exact heap_alloc_new w1 _
  rw [← hw2]
  have HXB := Aside0.mk (show w.heap.size ≤ w1.heap.size from HB.out.size)
  obtain ⟨xb, hxb⟩ : ∃ xb, xb = w1.heap.size := ⟨_, rfl⟩
  rw [← hxb] at hc2 HXB ⊢
  have HB2 := Aside0.mk hb2
  have HC2 := Aside0.mk hc2
  clear hw2 hxb hb2 hc2
  go_loopg [6] n (fun gg v6 wr => ∃ (i : Nat) (A' : Option Addr) (c' : Nat), Aside0 (i + gg = n) ∧ v6 = .int .i64 i ∧ Aside0 (wr.heap[xb]? = some (.cells #[.slice A' i c', .slice none 0 0, .int .i64 (-1), .bool false, .int .i64 0, .int .i64 0, .int .i64 0] 79 (0, 0))) ∧ Aside0 (Kd.R kB 39 wr w.heap.size (fun k => k ≠ sb) (.slice A' i c') (chunks xs i)) ∧ Aside0 (Below w.heap.size w wr))
  case atStart => exact ⟨0, none, 0, ⟨by omega⟩, rfl, HC2, ⟨Kd.R_nil _ _ _ _ _⟩, HB2⟩
  case round =>
    clear HC2 HB2
    obtain ⟨i, A', c', HI, rfl, HX, HR, HB2⟩ := hrel
    have HCH := Aside0.mk (chunks_succ xs i)
    by_cases hi : i < n
    · have hxl : xb < wr.heap.size := blk_lt HX.out
      have hm0 : ∀ m : Go.Reg.In (Below wr.heap.size wr), m.w.cell? ⟨xb, 0, none⟩ = some (.slice A' i c') := fun m => by rw [m.h.cell (p := ⟨xb, 0, none⟩) hxl]; exact cell_blk HX.out
      have q1 : (256 : Int) * i ≤ 256 * i + 256 := by omega
      have q2 : (256 : Int) * i + 256 ≤ c := by omega
      have q3 : (0 : Int) ≤ 256 * i := by omega
      go_wp2_with fail
      refine Go.Reg.region (Below wr.heap.size wr) [.p, .s, .s, .s, .s, .w, .s, .s, .s, .s, .s, .s, .s, .w, .w, .x, .p, .p, .x] (by kernel_rfl) (by kernel_rfl) (below_drew1 (Below.refl _ _)) (fun ne => ?_)
      refine Go.Reg.lex_qp 1 _ _ _ _ _ (by rfl) ?_; simp only [List.take_succ_cons, List.take_zero, List.drop_succ_cons, List.drop_zero]; (repeat (go_big_quiet_step (rfl))); refine wpQuiet_nil ?_
      refine Go.Reg.lex_q 4 _ _ _ _ (by rfl) ?_; simp only [List.take_succ_cons, List.take_zero, List.drop_succ_cons, List.drop_zero]; (repeat (go_big_quiet_step (rfl))); refine wpQuiet_nil ?_
      refine Go.Reg.step_w (fun K hK => ?_)
      go_wp2_with fail
      obtain ⟨w3, hw3⟩ : ∃ w3, w3 = (wr.alloc (.cells #[] 5)).drew := ⟨_, rfl⟩
      have HB3 := Aside0.mk (show Below wr.heap.size wr w3 by rw [hw3]; exact below_drew1 ((Below.refl _ _).alloc (Nat.le_refl _) _))
      have HO3 := Aside0.mk (show Kd.R (Kd.int .u8) 5 w3 wr.heap.size (fun _ => True) (.slice (some ⟨wr.heap.size, 0, none⟩) 0 0) [] by rw [hw3]; exact Kd.R_drew ⟨fun _ _ => trivial, OwnRow.lit wr wr.heap.size (Reps.none _ _) (Nat.le_refl _) (by simp)⟩)
      rw [← hw3]
      clear hw3
      refine hK.out _ _ HB3.out ?_
      clear hK K
      try simp only [Act.put, List.setIfInBounds_toArray, List.set_cons_succ, List.set_cons_zero]
      refine Go.Reg.lex_q 7 _ _ _ _ (by rfl) ?_; simp only [List.take_succ_cons, List.take_zero, List.drop_succ_cons, List.drop_zero]; (repeat (go_big_quiet_step (rfl))); refine wpQuiet_nil ?_
      refine Go.Reg.step_w (fun K hK => ?_)
      have hC3 := seg_C (Kd.C_below HC.out (HB2.out.trans (HB3.out.mono HB2.out.size))) i n HL.out hi
      have hclen := chunk_len xs n i HL.out hi
      refine Kd.R_append_rows (Kd.int .u8) (Rr := (Kd.int .u8).K w3) (w0 := wr) wr.heap.size rfl (.tmp 31) (.tmp 38) 39 5 (.int .u8 0) 1 rfl Tryz.underlying39 infoU8 rfl (by decide) (by omega) (.slice (some ⟨wr.heap.size, 0, none⟩) 0 0) [] ((xs.drop (i * 256)).take 256) (some (a.add (256 * i))) (256 * i + 256 - 256 * i) (c - 256 * i) (fun _ => True) (fun _ => False) rfl rfl HO3.out hC3 (fun x cs h => h) (fun _ hk => hk.elim) (fun _ _ => trivial) HB3.out HB3.out.size (by simp) ?_
      intro vb w4 hrb hb4 _ _
      rw [List.nil_append] at hrb
      obtain ⟨AB, cB, rfl⟩ := Kd.R_slice hrb
      have HRB := Aside0.mk hrb
      have HB4 := Aside0.mk hb4
      have HCL := Aside0.mk hclen
      rw [hclen]
      clear hrb hb4 hC3 hclen
      refine hK.out _ _ HB4.out ?_
      clear hK K
      try simp only [Act.put, List.setIfInBounds_toArray, List.set_cons_succ, List.set_cons_zero]
      refine Go.Reg.step_w (fun K hK => ?_)
      go_wp2_with fail
      refine hK.out _ _ (HB4.out.alloc HB4.out.size _) ?_
      clear hK K
      refine Go.Reg.step_x (by rfl) (fun K hK => ?_)
      have hs4 : wr.heap.size ≤ w4.heap.size := HB4.out.size
      have hsw : w.heap.size ≤ wr.heap.size := HB2.out.size
      have HR4 := Aside0.mk (Kd.R_below HR.out HB4.out)
      have hx4 := (HB4.out.block xb hxl).trans HX.out
      have HOW := Aside0.mk (Kd.R_lt HR.out)
      have hlc := chunks_len xs i
      refine Kd.R_append kB (w0 := w) (W := w4) w.heap.size rfl (.tmp 30) (.tmp 40) 74 39 (.slice none 0 0) 24 rfl Tryz.underlying74 infoB rfl (by decide) (by omega) (.slice A' i c') (chunks xs i) ((xs.drop (i * 256)).take 256) [.slice AB 256 cB] (fun k => k ≠ sb) (fun k => wr.heap.size ≤ k) rfl rfl ?aP ?aK ?aF HR4.out (HB2.out.trans (HB4.out.mono HB2.out.size)) (by omega) (by rw [hlc]; omega) ?_
      case aP => exact ⟨_, rfl, by
        have h1 := HRB.out
        rw [HCL.out] at h1
        exact Kd.R_mono (Kd.R_lower (Kd.R_bound h1) hsw) (fun k hk => hk.2.1)⟩
      case aK => exact fun k hk => ⟨by omega, fun e => by have := HOW.out k e.symm; omega⟩
      case aF => exact fun k hk => by omega
      intro v5 w5 ho5 hb5 hg5 _
      obtain ⟨A5, c5, rfl⟩ := Kd.R_slice ho5
      rw [← HCH.out, chunks_len] at ho5 ⊢
      have hned : some xb ≠ (Value.slice A' i c').ownBlock := Kd.R_ne HR4.out hx4 (by decide)
      have k5 := (hg5.block xb (by omega) hned).trans hx4
      have HK5 := Aside0.mk k5
      have HO5 := Aside0.mk ho5
      have HB5 := Aside0.mk hb5
      have d1 : w5.cell? ⟨xb, 0, none⟩ = some (.slice A' i c') := cell_blk k5
      have g1 : w5.frozen? ⟨xb, 0, none⟩ = false := frozen_blk k5
      clear ho5 hb5 hg5 hx4 hned k5 hlc
      refine hK.out _ _ ?_
      clear hK K
      try simp only [Act.put, List.setIfInBounds_toArray, List.set_cons_succ, List.set_cons_zero]
      refine Go.Reg.lex_qp 2 _ _ _ _ _ (by rfl) ?_; simp only [List.take_succ_cons, List.take_zero, List.drop_succ_cons, List.drop_zero]; (repeat (go_big_quiet_step (rfl))); refine wpQuiet_nil ?_
      refine Go.Reg.step_x (by rfl) (fun K hK => ?_)
      clear hm0
      go_wp2_with fail
      refine hK.out _ _ ?_
      clear hK K
      refine Go.Reg.lex_nil ?_
      have hset := blk_set HK5.out 0 (.slice A5 (i + 1) c5)
      obtain ⟨w6, hw6⟩ : ∃ w6, w6 = w5.setCell ⟨xb, 0, none⟩ (.slice A5 (i + 1) c5) := ⟨_, rfl⟩
      rw [← hw6] at hset
      have HX6 := Aside0.mk hset
      have HR6 := Aside0.mk (show Kd.R kB 39 w6 w.heap.size (fun k => k ≠ sb) (.slice A5 (i + 1) c5) (chunks xs (i + 1)) by rw [hw6]; exact Kd.R_set HO5.out HK5.out (by decide) 0 _)
      have HB6 := Aside0.mk (show Below w.heap.size w w6 by rw [hw6]; exact HB5.out.setCell (p := ⟨xb, 0, none⟩) HXB.out _)
      rw [← hw6]
      clear hw6 hset d1 g1
      go_wp2_with fail
      go_roundg (gk - 1)
      case measure => have := HI.out; omega
      case rel => exact ⟨i + 1, A5, c5, ⟨by have := HI.out; omega⟩, by go_num, HX6, HR6, HB6⟩
    · have hin : i = n := by have := HI.out; omega
      subst hin
      go_wp2_with fail
      go_ret2
      have hcl := chunks_len xs i
      refine ⟨xb, rfl, ⟨.slice A' i c', .slice none 0 0, HOK.out, HXB.out, Nat.lt_of_lt_of_le hsb HB2.out.size, Kd.R_base HR.out, fun _ h => by simp [Value.ownBlock] at h, HX.out, Kd.R_lower HR.out (Nat.zero_le _), Kd.R_nil _ _ _ _ _⟩, HB2.out⟩
theorem chunks_zeros (n : Nat) : chunks (zeros n).flatten n = zeros n := by
  apply List.ext_getElem
  · rw [chunks_len, zeros_size]
  · intro i h1 h2
    have h3 : i < (zeros n).length := h2
    simp only [chunks, List.getElem_map, List.getElem_range]
    exact flat_block (zeros_len n) i h3
theorem load_zeros (n : Nat) : loadD (zeros n).flatten n = blankD n := by
  unfold loadD blankD
  rw [chunks_zeros]
set_option maxHeartbeats 8000000 in
set_option maxRecDepth 100000 in
theorem xblank_yes (n : Nat) (w : World) (sb : Nat) (hsb : sb < w.heap.size) (h : 16 ≤ n ∧ n ≤ 1024) :
    Calls Tryz.prog 5 #[.int .i64 n] w fun e w' => ∃ xb, e = .returned (.tuple #[.pointer (some ⟨xb, 0, none⟩), .int .i64 0]) ∧ RD w' w.heap.size sb xb (blankD n) ∧ Below w.heap.size w w' := by
  have hmk : ∀ W, (Instr.makeSlice 39 (.int .i64 (256 * (n : Int))) (.int .i64 (256 * (n : Int)))).run Tryz.prog W = .ok (.slice (some ⟨W.heap.size, 0, none⟩) (n * 256) (n * 256)) (W.alloc (.cells (u8s (zeros n).flatten).toArray 5)) := fun W => by rw [Int.mul_comm]; exact zeros_row n h.2 W
  obtain ⟨h1, h2⟩ := h
  go_enter Tryz.func5, Tryz.ntmps5
  go_wp2_with fail
  refine (chantryref06_may.calls n true w (may_f _ _ (by rw [decide_eq_true]; omega))).mono ?_
  rintro e w1 ⟨rfl, ⟨k, rfl⟩⟩
  obtain ⟨w1, hw1⟩ : ∃ w1, w1 = w.drewN k := ⟨_, rfl⟩
  rw [← hw1]
  have HB := Aside0.mk (show Below w.heap.size w w1 by rw [hw1]; exact pw_below_drewN (Below.refl _ _) k)
  clear hw1
  go_wp2_with fail
  obtain ⟨w2, hw2⟩ : ∃ w2, w2 = w1.alloc (.cells (u8s (zeros n).flatten).toArray 5) := ⟨_, rfl⟩
  have hz := heap_alloc_new w1 (.cells (u8s (zeros n).flatten).toArray 5)
  rw [← hw2] at hz ⊢
  have HB2 := Aside0.mk (show Below w.heap.size w w2 by rw [hw2]; exact HB.out.alloc HB.out.size _)
  have hlen : (zeros n).flatten.length = n * 256 := by rw [flat_len (zeros_len n), zeros_size]
  have hC : Kd.C (Kd.int .u8) w2 (some ⟨w1.heap.size, 0, none⟩) (zeros n).flatten.length (zeros n).flatten := by
    refine Kd.C_of_reads (enc := fun x => Value.int .u8 x) (d := (0:Int)) (h1 := fun _ => rfl) ⟨rfl, by omega, fun _ => ⟨_, rfl, fun j hj => ?_⟩⟩
    have hadd : (⟨w1.heap.size, 0, none⟩ : Addr).add j = ⟨w1.heap.size, j, none⟩ := by unfold Addr.add; split <;> simp_all
    rw [hadd, cell_blk hz, List.getElem?_toArray]
    unfold u8s
    rw [List.getElem?_map, List.getD_eq_getElem?_getD, List.getElem?_eq_getElem hj]
    rfl
  have hxl := xload_yes sb (Nat.lt_of_lt_of_le hsb HB2.out.size) ⟨w1.heap.size, 0, none⟩ (n * 256) (zeros n).flatten n hlen ⟨h1, h2⟩ (by omega) hC (fun x hx => by rw [zeros_mem hx]; omega)
  rw [load_zeros, hlen] at hxl
  clear hmk hw2 hz hC hlen
  refine hxl.mono ?_
  rintro e w3 ⟨xb, rfl, p, b⟩
  obtain ⟨vs, vw, hx⟩ := p
  have HP := Aside0.mk (show RD w3 w.heap.size sb xb (blankD n) from ⟨vs, vw, hx.ok, Nat.le_trans HB2.out.size hx.xbase, hx.slt, fun k hk => Nat.le_trans HB2.out.size (hx.sown k hk), fun k hk => Nat.le_trans HB2.out.size (hx.wown k hk), hx.cells, hx.safe, hx.waits⟩)
  have HB3 := Aside0.mk (HB2.out.trans (b.mono HB2.out.size))
  clear hxl hx b
  go_wp2_with fail
  go_ret2
  exact ⟨xb, rfl, HP.out, HB3.out⟩
end Disk
end Go.Proofs.YtclneeamemofoaaGreat
end
section
namespace Go.Proofs.YtclneeamemofoaaGreat
set_option linter.unusedVariables false
set_option linter.unusedSimpArgs false
open Go.RowKit Go.Proofs.YtclneeamemofoaaGreatW.PrintWords Go.Proofs.YtclneeamemofoaaGreatW.PrintLast Go.Proofs.YtclneeamemofoaaGreatW.PrintMore
namespace Disk
open Go.Disk PDiskDoes PChain
end Disk
end Go.Proofs.YtclneeamemofoaaGreat
namespace Go.Proofs.YtclneeamemofoaaGreat
set_option linter.unusedVariables false
set_option linter.unusedSimpArgs false
open Go.RowKit Go.Proofs.YtclneeamemofoaaGreatW.PrintWords Go.Proofs.YtclneeamemofoaaGreatW.PrintLast Go.Proofs.YtclneeamemofoaaGreatW.PrintMore
namespace Disk
open Go.Disk PDiskDoes PChain
end Disk
end Go.Proofs.YtclneeamemofoaaGreat
namespace Go.Proofs.YtclneeamemofoaaGreat
set_option linter.unusedVariables false
set_option linter.unusedSimpArgs false
open Go.RowKit Go.Proofs.YtclneeamemofoaaGreatW.PrintWords Go.Proofs.YtclneeamemofoaaGreatW.PrintLast Go.Proofs.YtclneeamemofoaaGreatW.PrintMore
namespace Disk
open Go.Disk PDiskDoes PChain
abbrev FB (base db sb xb : Nat) (w w' : World) : Prop := Fr (fun k => k = db ∨ k = sb ∨ k = xb) (fun k t => base ≤ k ∧ (t = 103 ∨ t = 39 ∨ t = 106)) w w'
theorem FB.of_fp {base db sb xb : Nat} {w w' : World} (f : FP base db sb w w') : FB base db sb xb w w' := f.mono (fun k h => by rcases h with h | h; exact .inl h; exact .inr (.inl h)) (fun k t h => ⟨h.1, .inl h.2⟩)
theorem FB.of_fx {base db sb xb : Nat} {w w' : World} (f : FX base xb w w') : FB base db sb xb w w' := f.mono (fun k h => .inr (.inr h)) (fun k t h => ⟨h.1, .inr h.2⟩)
theorem FB.of_below {base db sb xb : Nat} {w w' : World} (f : Below w.heap.size w w') : FB base db sb xb w w' := Fr.of_below f
theorem FB.below {base db sb xb : Nat} {w w' : World} (f : FB base db sb xb w w') (hd : base ≤ db) (hs : base ≤ sb) (hx : base ≤ xb) (hw : base ≤ w.heap.size) : Below base w w' := ⟨f.os, f.tape, f.output, f.size, fun k hk => f.block k (by omega) (by rintro (h | h | h) <;> omega) (fun _ _ _ _ h => by omega)⟩
theorem R_fr {α : Type} {d : Kd α} {e : Nat} {w w' : World} {base : Nat} {ok bs : Nat → Prop} {ts : Nat → Nat → Prop} {v : Value} {xs : List α} (h : d.R e w base ok v xs) (f : Fr bs ts w w') (hb : ∀ k, ok k → base ≤ k → ¬ bs k) (ht : ∀ q, q ∈ e :: d.E → ∀ k, ¬ ts k q) : d.R e w' base ok v xs :=
  Kd.R_mono (Kd.R_step (Kd.R_bound h) (fun k hk hlt => by
    obtain ⟨ho, hb', _, q, hq, cells, hc⟩ := hk
    exact f.block k hlt (hb k ho hb') (fun c t fz hc' => by rw [hc] at hc'; cases hc'; exact fun h => ht q hq k h))) (fun _ hk => hk.1)
theorem u8_fb {w w' : World} {base base' db sb xb : Nat} {ok : Nat → Prop} {v : Value} {xs : List Int} (h : Kd.R (Kd.int .u8) 5 w base' ok v xs) (f : FB base db sb xb w w') (hd : db < base') (hs : sb < base') (hx : xb < base') : Kd.R (Kd.int .u8) 5 w' base' ok v xs := by
  refine R_fr h f (fun k _ hk h => ?_) (fun q hq k h => ?_)
  · rcases h with h | h | h <;> omega
  · have hq' : q ∈ [5] := hq
    rw [List.mem_singleton] at hq'
    subst hq'
    rcases h with ⟨_, h | h | h⟩ <;> exact absurd h (by decide)
structure Both (w : World) (base db sb xb : Nat) (D : Dk) : Prop where
  pd : PD w base db sb D
  rd : RD w base sb xb D
  bs : base ≤ w.heap.size
theorem Both.low {w : World} {base db sb xb : Nat} {D : Dk} (h : Both w base db sb xb D) : base ≤ db ∧ base ≤ sb ∧ base ≤ xb := by
  obtain ⟨⟨_, _, _, p⟩, ⟨_, _, r⟩, _⟩ := h
  exact ⟨p.dbase, p.sbase, r.xbase⟩
theorem Both.lt {w : World} {base db sb xb : Nat} {D : Dk} (h : Both w base db sb xb D) : db < w.heap.size ∧ sb < w.heap.size ∧ xb < w.heap.size := by
  obtain ⟨⟨_, _, _, p⟩, ⟨_, _, r⟩, _⟩ := h
  exact ⟨blk_lt p.cells, blk_lt p.safe, blk_lt r.cells⟩
theorem Both.below {w w' : World} {base db sb xb : Nat} {D : Dk} (h : Both w base db sb xb D) (b : Below w.heap.size w w') : Both w' base db sb xb D := ⟨h.pd.below b, h.rd.below b, Nat.le_trans h.bs b.size⟩
theorem Both.ok {w : World} {base db sb xb : Nat} {D : Dk} (h : Both w base db sb xb D) : Ok D := h.pd.ok
theorem Both.fp {w w' : World} {base db sb xb : Nat} {D : Dk} (h : Both w base db sb xb D) (f : FP base db sb w w') : RD w' base sb xb D := by
  obtain ⟨⟨_, _, _, p⟩, ⟨vs, vw, r⟩, _⟩ := h
  exact ⟨vs, vw, r.fp p.cells p.safe f⟩
theorem PD.fx {w w' : World} {base db sb xb : Nat} {D D' : Dk} (p : PD w base db sb D) (r : RD w base sb xb D') (f : FX base xb w w') : PD w' base db sb D := by
  obtain ⟨_, _, _, p⟩ := p
  obtain ⟨vs, vw, r⟩ := r
  exact ⟨_, _, _, p.fx r.cells f⟩
def dat (odd : Bool) (bs : List Int) : List Int := if odd then bs else blockOf bs
theorem dat_mem (odd : Bool) (bs : List Int) (h : ∀ x ∈ bs, 0 ≤ x ∧ x ≤ 255) : ∀ x ∈ dat odd bs, 0 ≤ x ∧ x ≤ 255 := by
  unfold dat
  split
  · exact h
  · exact block_mem bs h
def flushF (D : Dk) : Dk := if ready D 0 ≠ 0 then D else if D.left = 0 then deedD D else flushD (deedD D)
def doD (D : Dk) (K N : Int) (bs : List Int) (odd : Bool) (ms : List Int) : Dk :=
  if K = 1 then (if ready D N = 0 then readD D else D)
  else if K = 2 then (writeD D N (dat odd bs)).1
  else if K = 3 then flushF D
  else if K = 4 then (if N < 0 then D else stopD D N)
  else if K = 5 then crashD D ms
  else D
theorem nil_string (W : World) : (convert 39 9 (.slice none 0 0)).run Tryz.prog W = .ok (.string (strOfNums [])) W :=
  Kd.C_string (xs := []) Tryz.underlying39 Tryz.underlying5 Tryz.underlying9 ⟨rfl, by decide, fun h => absurd h (by decide)⟩
set_option maxHeartbeats 8000000 in
set_option maxRecDepth 100000 in
theorem do_read {w : World} {base db sb xb : Nat} {D : Dk} (h : Both w base db sb xb D) (N : Int) (A : Option Addr) (l c : Nat) (odd : Bool) (AM : Option Addr) (lm cm : Nat) (hfew : D.waits.length ≤ 1000000) :
    Calls Tryz.prog 11 #[.pointer (some ⟨db, 0, none⟩), .pointer (some ⟨xb, 0, none⟩), .agg #[.int .i64 1, .int .i64 N, .slice A l c, .bool odd, .slice AM lm cm]] w fun e w' => e = .returned (.bool true) ∧ Both w' base db sb xb (if ready D N = 0 then readD D else D) ∧ FB base db sb xb w w' ∧ w.heap.size < w'.heap.size := by
  have hal : Below w.heap.size w (w.alloc (.cells #[.int .i64 1, .int .i64 N, .slice A l c, .bool odd, .slice AM lm cm] 45)) := (Below.refl _ _).alloc (Nat.le_refl _) _
  obtain ⟨W, hW⟩ : ∃ W, W = w.alloc (.cells #[.int .i64 1, .int .i64 N, .slice A l c, .bool odd, .slice AM lm cm] 45) := ⟨_, rfl⟩
  have HP := Aside0.mk (h.below hal)
  have HF0 := Aside0.mk (show FB base db sb xb w W by rw [hW]; exact FB.of_below hal)
  have HWE := Aside0.mk hW
  have HGT := Aside0.mk (show w.heap.size < W.heap.size by rw [hW]; simp)
  have HBX := Aside0.mk (show W.heap[w.heap.size]? = some (.cells #[.int .i64 1, .int .i64 N, .slice A l c, .bool odd, .slice AM lm cm] 45 (0, 0)) by rw [hW]; exact heap_alloc_new w _)
  have HLT := Aside0.mk h.lt
  clear h hal
  rw [← hW] at HP
  by_cases hr : ready D N = 0
  · rw [if_pos hr]
    have HR := Aside0.mk hr
    clear hr hW
    go_enter Tryz.func11, Tryz.ntmps11
    go_wp2_with fail
    rw [← HWE.out]
    refine (read_yes HP.out.pd N HR.out (by omega)).mono ?_
    rintro e w2 ⟨v, rfl, hrv, p2, f2⟩
    have HRV := Aside0.mk hrv
    have HP2 := Aside0.mk p2
    have HX2 := Aside0.mk (HP.out.fp f2)
    have HF2 := Aside0.mk f2
    have cb : w2.heap[w.heap.size]? = _ := (f2.block _ (blk_lt HBX.out) (by rintro (h | h) <;> (have := HLT.out; omega)) (fun c t fz hc' => by rw [HBX.out] at hc'; cases hc'; exact fun h => absurd h.2 (by decide))).trans HBX.out
    have c1 : w2.cell? ⟨w.heap.size, 1, none⟩ = some (.int .i64 N) := cell_blk cb
    clear hrv p2 f2
    go_wp2_with fail
    refine (xread_yes HX2.out N HR.out hfew).mono ?_
    rintro e w3 ⟨v3, rfl, hrv3, p3, f3⟩
    have HF3 := Aside0.mk f3
    have HP3 := Aside0.mk (PD.fx HP2.out HX2.out f3)
    have HX3 := Aside0.mk p3
    have HRV2 := Aside0.mk (u8_fb HRV.out (FB.of_fx (db := db) (sb := sb) f3) (by have := HLT.out; have := HF0.out.size; omega) (by have := HLT.out; have := HF0.out.size; omega) (by have := HLT.out; have := HF0.out.size; omega))
    have HRV3 := Aside0.mk hrv3
    clear hrv3 p3 f3 c1 cb
    obtain ⟨A2, c2, rfl⟩ := Kd.R_slice HRV2.out
    obtain ⟨A3, c3, rfl⟩ := Kd.R_slice HRV3.out
    have s2 : (convert 39 9 (.slice A2 (nowD D N).length c2)).run Tryz.prog w3 = _ := Kd.C_string Tryz.underlying39 Tryz.underlying5 Tryz.underlying9 (row_at HRV2.out)
    have s3 : (convert 39 9 (.slice A3 (nowD D N).length c3)).run Tryz.prog w3 = _ := Kd.C_string Tryz.underlying39 Tryz.underlying5 Tryz.underlying9 (row_at HRV3.out)
    obtain ⟨T, hT⟩ : ∃ T, T = strOfNums (nowD D N) := ⟨_, rfl⟩
    rw [← hT] at s2 s3
    clear hT
    go_wp2_with fail
    go_ret
    exact ⟨rfl, ⟨HP3.out, HX3.out, Nat.le_trans HP.out.bs (Nat.le_trans HF2.out.size HF3.out.size)⟩, HF0.out.trans ((FB.of_fp HF2.out).trans (FB.of_fx HF3.out)), Nat.lt_of_lt_of_le HGT.out (Fr.size ((FB.of_fp HF2.out).trans (FB.of_fx HF3.out)))⟩
  · rw [if_neg hr]
    have HR := Aside0.mk hr
    clear hr hW
    go_enter Tryz.func11, Tryz.ntmps11
    go_wp2_with fail
    rw [← HWE.out]
    refine (read_no HP.out.pd N HR.out).mono ?_
    rintro e w2 ⟨rfl, rfl⟩
    have c1 : w2.cell? ⟨w.heap.size, 1, none⟩ = some (.int .i64 N) := cell_blk HBX.out
    obtain ⟨r, hr⟩ : ∃ r, r = ready D N := ⟨_, rfl⟩
    rw [← hr]
    go_wp2_with fail
    refine (xread_no HP.out.rd N HR.out).mono ?_
    rintro e w3 ⟨rfl, rfl⟩
    rw [← hr]
    have s2 := nil_string w3
    obtain ⟨T, hT⟩ : ∃ T, T = strOfNums [] := ⟨_, rfl⟩
    rw [← hT] at s2
    clear hT hr c1
    go_wp2_with fail
    go_ret
    exact ⟨rfl, HP.out, HF0.out, HGT.out⟩
set_option maxHeartbeats 8000000 in
set_option maxRecDepth 100000 in
theorem data_any {w : World} {base : Nat} (K N : Int) (A : Option Addr) (bs : List Int) (c : Nat) (odd : Bool) (AM : Option Addr) (lm cm : Nat) (hC : ∀ x, Below base w x → Kd.C (Kd.int .u8) x A bs.length bs) (hc : bs.length ≤ c) (hb : base ≤ w.heap.size) :
    Calls Tryz.prog 30 #[.agg #[.int .i64 K, .int .i64 N, .slice A bs.length c, .bool odd, .slice AM lm cm]] w fun e w' => ∃ A' c', e = .returned (.slice A' (dat odd bs).length c') ∧ (∀ x, Below w'.heap.size w' x → Kd.C (Kd.int .u8) x A' (dat odd bs).length (dat odd bs)) ∧ Below w.heap.size w w' := by
  have HC := Aside0.mk hC
  clear hC
  cases odd with
  | true =>
    rw [show dat true bs = bs from rfl]
    go_enter Tryz.func30, Tryz.ntmps30
    go_wp2_with fail
    go_ret
    have hb1 : Below w.heap.size w (w.alloc (.cells #[.int .i64 K, .int .i64 N, .slice A bs.length c, .bool true, .slice AM lm cm] 45)) := (Below.refl _ _).alloc (Nat.le_refl _) _
    exact ⟨A, c, rfl, fun x hx => HC.out x ((hb1.mono hb).trans (hx.mono (Nat.le_trans hb hb1.size))), hb1⟩
  | false =>
    rw [show dat false bs = blockOf bs from rfl]
    go_enter Tryz.func30, Tryz.ntmps30
    go_wp2_with fail
    have hb1 : Below w.heap.size w (w.alloc (.cells #[.int .i64 K, .int .i64 N, .slice A bs.length c, .bool false, .slice AM lm cm] 45)) := (Below.refl _ _).alloc (Nat.le_refl _) _
    have HB1 := Aside0.mk hb1
    clear hb1
    refine (Block_any A c bs (HC.out _ (HB1.out.mono hb)) hc).mono ?_
    rintro e w2 ⟨a, c', rfl, hc', hr, b⟩
    have HR := Aside0.mk hr
    have HB2 := Aside0.mk (HB1.out.trans (b.mono HB1.out.size))
    clear hr b
    go_wp2_with fail
    go_ret
    refine ⟨some a, c', by rw [block_len]; rfl, fun x hx => ?_, HB2.out⟩
    have := row_at (Kd.R_below (show Kd.R (Kd.int .u8) 5 w2 _ _ (.slice (some a) 256 c') (blockOf bs) from HR.out) hx)
    exact this
set_option maxHeartbeats 8000000 in
set_option maxRecDepth 100000 in
theorem do_write_no {w : World} {base db sb xb : Nat} {D : Dk} (h : Both w base db sb xb D) (N : Int) (A : Option Addr) (bs : List Int) (c : Nat) (odd : Bool) (AM : Option Addr) (ms : List Int) (cm : Nat) (hC : ∀ x, Below base w x → Kd.C (Kd.int .u8) x A bs.length bs) (hc : bs.length ≤ c) (hby : ∀ x ∈ bs, 0 ≤ x ∧ x ≤ 255) (hfew : D.waits.length ≤ 1000000) (hr : ready D N ≠ 0) :
    Calls Tryz.prog 11 #[.pointer (some ⟨db, 0, none⟩), .pointer (some ⟨xb, 0, none⟩), .agg #[.int .i64 2, .int .i64 N, .slice A bs.length c, .bool odd, .slice AM ms.length cm]] w fun e w' => e = .returned (.bool true) ∧ Both w' base db sb xb D ∧ FB base db sb xb w w' ∧ w.heap.size < w'.heap.size := by
  have HC := Aside0.mk hC
  have HBY := Aside0.mk hby
  clear hC hby
  have HR := Aside0.mk hr
  clear hr
  obtain ⟨r, hrr⟩ : ∃ r, r = ready D N := ⟨_, rfl⟩
  have HRR := Aside0.mk hrr
  clear hrr
  have hal : Below w.heap.size w (w.alloc (.cells #[.int .i64 2, .int .i64 N, .slice A bs.length c, .bool odd, .slice AM ms.length cm] 45)) := (Below.refl _ _).alloc (Nat.le_refl _) _
  obtain ⟨W, hW⟩ : ∃ W, W = w.alloc (.cells #[.int .i64 2, .int .i64 N, .slice A bs.length c, .bool odd, .slice AM ms.length cm] 45) := ⟨_, rfl⟩
  have HP := Aside0.mk (h.below hal)
  have HAL := Aside0.mk (show Below w.heap.size w W by rw [hW]; exact hal)
  have HF0 := Aside0.mk (show FB base db sb xb w W by rw [hW]; exact FB.of_below hal)
  have HWE := Aside0.mk hW
  have HGT := Aside0.mk (show w.heap.size < W.heap.size by rw [hW]; simp)
  have HBX := Aside0.mk (show W.heap[w.heap.size]? = some (.cells #[.int .i64 2, .int .i64 N, .slice A bs.length c, .bool odd, .slice AM ms.length cm] 45 (0, 0)) by rw [hW]; exact heap_alloc_new w _)
  have HLT := Aside0.mk h.lt
  have HLOW := Aside0.mk h.low
  have HBS := Aside0.mk h.bs
  clear h hal
  rw [← hW] at HP
  have hm0 : ∀ m : Go.Reg.In (fun x : World => x.heap[w.heap.size]? = some (.cells #[.int .i64 2, .int .i64 N, .slice A bs.length c, .bool odd, .slice AM ms.length cm] 45 (0, 0))), m.w.cell? ⟨w.heap.size, 0, none⟩ = some (.int .i64 2) := fun m => cell_blk m.h
  have hm1 : ∀ m : Go.Reg.In (fun x : World => x.heap[w.heap.size]? = some (.cells #[.int .i64 2, .int .i64 N, .slice A bs.length c, .bool odd, .slice AM ms.length cm] 45 (0, 0))), m.w.cell? ⟨w.heap.size, 1, none⟩ = some (.int .i64 N) := fun m => cell_blk m.h
  have hm2 : ∀ m : Go.Reg.In (fun x : World => x.heap[w.heap.size]? = some (.cells #[.int .i64 2, .int .i64 N, .slice A bs.length c, .bool odd, .slice AM ms.length cm] 45 (0, 0))), m.w.cell? ⟨w.heap.size, 2, none⟩ = some (.slice A bs.length c) := fun m => cell_blk m.h
  have hm3 : ∀ m : Go.Reg.In (fun x : World => x.heap[w.heap.size]? = some (.cells #[.int .i64 2, .int .i64 N, .slice A bs.length c, .bool odd, .slice AM ms.length cm] 45 (0, 0))), m.w.cell? ⟨w.heap.size, 3, none⟩ = some (.bool odd) := fun m => cell_blk m.h
  have hm4 : ∀ m : Go.Reg.In (fun x : World => x.heap[w.heap.size]? = some (.cells #[.int .i64 2, .int .i64 N, .slice A bs.length c, .bool odd, .slice AM ms.length cm] 45 (0, 0))), m.w.cell? ⟨w.heap.size, 4, none⟩ = some (.slice AM ms.length cm) := fun m => cell_blk m.h
  have HKB := Aside0.mk (show ∀ x y : World, x.heap[w.heap.size]? = some (.cells #[.int .i64 2, .int .i64 N, .slice A bs.length c, .bool odd, .slice AM ms.length cm] 45 (0, 0)) → FB base db sb xb x y → y.heap[w.heap.size]? = some (.cells #[.int .i64 2, .int .i64 N, .slice A bs.length c, .bool odd, .slice AM ms.length cm] 45 (0, 0)) from fun x y hx f => (f.block _ (blk_lt hx) (by rintro (h | h | h) <;> (have := HLT.out; omega)) (fun c' t fz hc' => by rw [hx] at hc'; cases hc'; rintro ⟨_, h | h | h⟩ <;> exact absurd h (by decide))).trans hx)
  clear hW
  go_enter Tryz.func11, Tryz.ntmps11
  go_wp2_with fail
  rw [← HWE.out]
  refine Go.Reg.region (fun x : World => x.heap[w.heap.size]? = some (.cells #[.int .i64 2, .int .i64 N, .slice A bs.length c, .bool odd, .slice AM ms.length cm] 45 (0, 0))) [.s, .s, .s, .s, .w, .w, .s, .s, .s, .s, .w, .w, .s, .s] (by kernel_rfl) (by kernel_rfl) (show W.drew.heap[w.heap.size]? = _ from HBX.out) (fun ne => ?_)
  refine Go.Reg.lex_q 4 _ _ _ _ (by rfl) ?_; simp only [List.take_succ_cons, List.take_zero, List.drop_succ_cons, List.drop_zero]; (repeat (go_big_quiet_step (rfl))); refine wpQuiet_nil ?_
  refine Go.Reg.step_w (fun K hK => ?_)
  go_wp2_with fail
  have HW1 := Aside0.mk (below_drew1 (Below.refl W.heap.size W))
  refine (data_any (base := base) 2 N A bs c odd AM ms.length cm (fun x hx => HC.out x (((HAL.out.trans (HW1.out.mono HAL.out.size)).mono HBS.out).trans hx)) hc HP.out.bs).mono ?_
  rintro e w2 ⟨A2, c2, rfl, hC2, b2⟩
  have HC2 := Aside0.mk hC2
  have HP2 := Aside0.mk (HP.out.below (HW1.out.trans b2))
  have HF2 := Aside0.mk (show FB base db sb xb W w2 from FB.of_below (HW1.out.trans b2))
  clear hC2 b2
  go_wp2_with fail
  refine hK.out _ _ (HKB.out _ _ HBX.out HF2.out) ?_
  clear hK K
  try simp only [Act.put, List.setIfInBounds_toArray, List.set_cons_succ, List.set_cons_zero]
  refine Go.Reg.step_w (fun K hK => ?_)
  go_wp2_with fail
  refine (write_no HP2.out.pd N HR.out A2 _ c2).mono ?_
  rintro e w3 ⟨rfl, rfl⟩
  rw [← HRR.out]
  have f3 : FB base db sb xb w3 w3 := Fr.refl _ _ _
  have HP3 := Aside0.mk HP2.out.pd
  have HX3 := Aside0.mk HP2.out.rd
  have HF3 := Aside0.mk (HF2.out.trans f3)
  clear f3
  go_wp2_with fail
  refine hK.out _ _ (HKB.out _ _ HBX.out HF3.out) ?_
  clear hK K
  try simp only [Act.put, List.setIfInBounds_toArray, List.set_cons_succ, List.set_cons_zero]
  refine Go.Reg.lex_q 4 _ _ _ _ (by rfl) ?_; simp only [List.take_succ_cons, List.take_zero, List.drop_succ_cons, List.drop_zero]; (repeat (go_big_quiet_step (rfl))); refine wpQuiet_nil ?_
  refine Go.Reg.step_w (fun K hK => ?_)
  go_wp2_with fail
  have hbw := FB.below (HF0.out.trans HF3.out) HLOW.out.1 HLOW.out.2.1 HLOW.out.2.2 HBS.out
  refine (data_any (base := base) 2 N A bs c odd AM ms.length cm (fun x hx => HC.out x (hbw.trans hx)) hc (Nat.le_trans HBS.out hbw.size)).mono ?_
  rintro e w4 ⟨A4, c4, rfl, hC4, b4⟩
  have HC4 := Aside0.mk hC4
  have HP4 := Aside0.mk (HP3.out.below b4)
  have HX4 := Aside0.mk (HX3.out.below b4)
  have HF4 := Aside0.mk (HF3.out.trans (FB.of_below (db := db) (sb := sb) (xb := xb) b4))
  clear hC4 b4 hbw HP3 HX3
  go_wp2_with fail
  refine hK.out _ _ (HKB.out _ _ HBX.out HF4.out) ?_
  clear hK K
  try simp only [Act.put, List.setIfInBounds_toArray, List.set_cons_succ, List.set_cons_zero]
  refine Go.Reg.step_w (fun K hK => ?_)
  go_wp2_with fail
  refine (xwrite_no HX4.out N HR.out A4 _ c4).mono ?_
  rintro e w5 ⟨rfl, rfl⟩
  rw [← HRR.out]
  have f5 : FB base db sb xb w5 w5 := Fr.refl _ _ _
  have HP5 := HP4
  have HX5 := HX4
  have HF5 := Aside0.mk (HF4.out.trans f5)
  clear f5
  go_wp2_with fail
  refine hK.out _ _ (HKB.out _ _ HBX.out HF5.out) ?_
  clear hK K
  try simp only [Act.put, List.setIfInBounds_toArray, List.set_cons_succ, List.set_cons_zero]
  refine Go.Reg.lex_q 2 _ _ _ _ (by rfl) ?_; simp only [List.take_succ_cons, List.take_zero, List.drop_succ_cons, List.drop_zero]; (repeat (go_big_quiet_step (rfl))); refine wpQuiet_nil ?_
  refine Go.Reg.lex_nil ?_
  clear hm0 hm1 hm2 hm3 hm4
  go_wp2_with fail
  go_ret
  exact ⟨rfl, ⟨HP5.out, HX5.out, Nat.le_trans HP.out.bs HF5.out.size⟩, HF0.out.trans HF5.out, Nat.lt_of_lt_of_le HGT.out (Fr.size HF5.out)⟩
set_option maxHeartbeats 8000000 in
set_option maxRecDepth 100000 in
theorem do_write_size {w : World} {base db sb xb : Nat} {D : Dk} (h : Both w base db sb xb D) (N : Int) (A : Option Addr) (bs : List Int) (c : Nat) (odd : Bool) (AM : Option Addr) (ms : List Int) (cm : Nat) (hC : ∀ x, Below base w x → Kd.C (Kd.int .u8) x A bs.length bs) (hc : bs.length ≤ c) (hby : ∀ x ∈ bs, 0 ≤ x ∧ x ≤ 255) (hfew : D.waits.length ≤ 1000000) (hr : ready D N = 0) (hl : (dat odd bs).length ≠ 256) :
    Calls Tryz.prog 11 #[.pointer (some ⟨db, 0, none⟩), .pointer (some ⟨xb, 0, none⟩), .agg #[.int .i64 2, .int .i64 N, .slice A bs.length c, .bool odd, .slice AM ms.length cm]] w fun e w' => e = .returned (.bool true) ∧ Both w' base db sb xb D ∧ FB base db sb xb w w' ∧ w.heap.size < w'.heap.size := by
  have HC := Aside0.mk hC
  have HBY := Aside0.mk hby
  clear hC hby
  have HR := Aside0.mk hr
  have HL := Aside0.mk hl
  clear hr hl
  have hal : Below w.heap.size w (w.alloc (.cells #[.int .i64 2, .int .i64 N, .slice A bs.length c, .bool odd, .slice AM ms.length cm] 45)) := (Below.refl _ _).alloc (Nat.le_refl _) _
  obtain ⟨W, hW⟩ : ∃ W, W = w.alloc (.cells #[.int .i64 2, .int .i64 N, .slice A bs.length c, .bool odd, .slice AM ms.length cm] 45) := ⟨_, rfl⟩
  have HP := Aside0.mk (h.below hal)
  have HAL := Aside0.mk (show Below w.heap.size w W by rw [hW]; exact hal)
  have HF0 := Aside0.mk (show FB base db sb xb w W by rw [hW]; exact FB.of_below hal)
  have HWE := Aside0.mk hW
  have HGT := Aside0.mk (show w.heap.size < W.heap.size by rw [hW]; simp)
  have HBX := Aside0.mk (show W.heap[w.heap.size]? = some (.cells #[.int .i64 2, .int .i64 N, .slice A bs.length c, .bool odd, .slice AM ms.length cm] 45 (0, 0)) by rw [hW]; exact heap_alloc_new w _)
  have HLT := Aside0.mk h.lt
  have HLOW := Aside0.mk h.low
  have HBS := Aside0.mk h.bs
  clear h hal
  rw [← hW] at HP
  have hm0 : ∀ m : Go.Reg.In (fun x : World => x.heap[w.heap.size]? = some (.cells #[.int .i64 2, .int .i64 N, .slice A bs.length c, .bool odd, .slice AM ms.length cm] 45 (0, 0))), m.w.cell? ⟨w.heap.size, 0, none⟩ = some (.int .i64 2) := fun m => cell_blk m.h
  have hm1 : ∀ m : Go.Reg.In (fun x : World => x.heap[w.heap.size]? = some (.cells #[.int .i64 2, .int .i64 N, .slice A bs.length c, .bool odd, .slice AM ms.length cm] 45 (0, 0))), m.w.cell? ⟨w.heap.size, 1, none⟩ = some (.int .i64 N) := fun m => cell_blk m.h
  have hm2 : ∀ m : Go.Reg.In (fun x : World => x.heap[w.heap.size]? = some (.cells #[.int .i64 2, .int .i64 N, .slice A bs.length c, .bool odd, .slice AM ms.length cm] 45 (0, 0))), m.w.cell? ⟨w.heap.size, 2, none⟩ = some (.slice A bs.length c) := fun m => cell_blk m.h
  have hm3 : ∀ m : Go.Reg.In (fun x : World => x.heap[w.heap.size]? = some (.cells #[.int .i64 2, .int .i64 N, .slice A bs.length c, .bool odd, .slice AM ms.length cm] 45 (0, 0))), m.w.cell? ⟨w.heap.size, 3, none⟩ = some (.bool odd) := fun m => cell_blk m.h
  have hm4 : ∀ m : Go.Reg.In (fun x : World => x.heap[w.heap.size]? = some (.cells #[.int .i64 2, .int .i64 N, .slice A bs.length c, .bool odd, .slice AM ms.length cm] 45 (0, 0))), m.w.cell? ⟨w.heap.size, 4, none⟩ = some (.slice AM ms.length cm) := fun m => cell_blk m.h
  have HKB := Aside0.mk (show ∀ x y : World, x.heap[w.heap.size]? = some (.cells #[.int .i64 2, .int .i64 N, .slice A bs.length c, .bool odd, .slice AM ms.length cm] 45 (0, 0)) → FB base db sb xb x y → y.heap[w.heap.size]? = some (.cells #[.int .i64 2, .int .i64 N, .slice A bs.length c, .bool odd, .slice AM ms.length cm] 45 (0, 0)) from fun x y hx f => (f.block _ (blk_lt hx) (by rintro (h | h | h) <;> (have := HLT.out; omega)) (fun c' t fz hc' => by rw [hx] at hc'; cases hc'; rintro ⟨_, h | h | h⟩ <;> exact absurd h (by decide))).trans hx)
  clear hW
  go_enter Tryz.func11, Tryz.ntmps11
  go_wp2_with fail
  rw [← HWE.out]
  refine Go.Reg.region (fun x : World => x.heap[w.heap.size]? = some (.cells #[.int .i64 2, .int .i64 N, .slice A bs.length c, .bool odd, .slice AM ms.length cm] 45 (0, 0))) [.s, .s, .s, .s, .w, .w, .s, .s, .s, .s, .w, .w, .s, .s] (by kernel_rfl) (by kernel_rfl) (show W.drew.heap[w.heap.size]? = _ from HBX.out) (fun ne => ?_)
  refine Go.Reg.lex_q 4 _ _ _ _ (by rfl) ?_; simp only [List.take_succ_cons, List.take_zero, List.drop_succ_cons, List.drop_zero]; (repeat (go_big_quiet_step (rfl))); refine wpQuiet_nil ?_
  refine Go.Reg.step_w (fun K hK => ?_)
  go_wp2_with fail
  have HW1 := Aside0.mk (below_drew1 (Below.refl W.heap.size W))
  refine (data_any (base := base) 2 N A bs c odd AM ms.length cm (fun x hx => HC.out x (((HAL.out.trans (HW1.out.mono HAL.out.size)).mono HBS.out).trans hx)) hc HP.out.bs).mono ?_
  rintro e w2 ⟨A2, c2, rfl, hC2, b2⟩
  have HC2 := Aside0.mk hC2
  have HP2 := Aside0.mk (HP.out.below (HW1.out.trans b2))
  have HF2 := Aside0.mk (show FB base db sb xb W w2 from FB.of_below (HW1.out.trans b2))
  clear hC2 b2
  go_wp2_with fail
  refine hK.out _ _ (HKB.out _ _ HBX.out HF2.out) ?_
  clear hK K
  try simp only [Act.put, List.setIfInBounds_toArray, List.set_cons_succ, List.set_cons_zero]
  refine Go.Reg.step_w (fun K hK => ?_)
  go_wp2_with fail
  refine (write_size HP2.out.pd N HR.out A2 _ c2 HL.out).mono ?_
  rintro e w3 ⟨rfl, rfl⟩
  have f3 : FB base db sb xb w3 w3 := Fr.refl _ _ _
  have HP3 := Aside0.mk HP2.out.pd
  have HX3 := Aside0.mk HP2.out.rd
  have HF3 := Aside0.mk (HF2.out.trans f3)
  clear f3
  go_wp2_with fail
  refine hK.out _ _ (HKB.out _ _ HBX.out HF3.out) ?_
  clear hK K
  try simp only [Act.put, List.setIfInBounds_toArray, List.set_cons_succ, List.set_cons_zero]
  refine Go.Reg.lex_q 4 _ _ _ _ (by rfl) ?_; simp only [List.take_succ_cons, List.take_zero, List.drop_succ_cons, List.drop_zero]; (repeat (go_big_quiet_step (rfl))); refine wpQuiet_nil ?_
  refine Go.Reg.step_w (fun K hK => ?_)
  go_wp2_with fail
  have hbw := FB.below (HF0.out.trans HF3.out) HLOW.out.1 HLOW.out.2.1 HLOW.out.2.2 HBS.out
  refine (data_any (base := base) 2 N A bs c odd AM ms.length cm (fun x hx => HC.out x (hbw.trans hx)) hc (Nat.le_trans HBS.out hbw.size)).mono ?_
  rintro e w4 ⟨A4, c4, rfl, hC4, b4⟩
  have HC4 := Aside0.mk hC4
  have HP4 := Aside0.mk (HP3.out.below b4)
  have HX4 := Aside0.mk (HX3.out.below b4)
  have HF4 := Aside0.mk (HF3.out.trans (FB.of_below (db := db) (sb := sb) (xb := xb) b4))
  clear hC4 b4 hbw HP3 HX3
  go_wp2_with fail
  refine hK.out _ _ (HKB.out _ _ HBX.out HF4.out) ?_
  clear hK K
  try simp only [Act.put, List.setIfInBounds_toArray, List.set_cons_succ, List.set_cons_zero]
  refine Go.Reg.step_w (fun K hK => ?_)
  go_wp2_with fail
  refine (xwrite_size HX4.out N HR.out A4 _ c4 HL.out).mono ?_
  rintro e w5 ⟨rfl, rfl⟩
  have f5 : FB base db sb xb w5 w5 := Fr.refl _ _ _
  have HP5 := HP4
  have HX5 := HX4
  have HF5 := Aside0.mk (HF4.out.trans f5)
  clear f5
  go_wp2_with fail
  refine hK.out _ _ (HKB.out _ _ HBX.out HF5.out) ?_
  clear hK K
  try simp only [Act.put, List.setIfInBounds_toArray, List.set_cons_succ, List.set_cons_zero]
  refine Go.Reg.lex_q 2 _ _ _ _ (by rfl) ?_; simp only [List.take_succ_cons, List.take_zero, List.drop_succ_cons, List.drop_zero]; (repeat (go_big_quiet_step (rfl))); refine wpQuiet_nil ?_
  refine Go.Reg.lex_nil ?_
  clear hm0 hm1 hm2 hm3 hm4
  go_wp2_with fail
  go_ret
  exact ⟨rfl, ⟨HP5.out, HX5.out, Nat.le_trans HP.out.bs HF5.out.size⟩, HF0.out.trans HF5.out, Nat.lt_of_lt_of_le HGT.out (Fr.size HF5.out)⟩
set_option maxHeartbeats 8000000 in
set_option maxRecDepth 100000 in
theorem do_write_yes {w : World} {base db sb xb : Nat} {D : Dk} (h : Both w base db sb xb D) (N : Int) (A : Option Addr) (bs : List Int) (c : Nat) (odd : Bool) (AM : Option Addr) (ms : List Int) (cm : Nat) (hC : ∀ x, Below base w x → Kd.C (Kd.int .u8) x A bs.length bs) (hc : bs.length ≤ c) (hby : ∀ x ∈ bs, 0 ≤ x ∧ x ≤ 255) (hfew : D.waits.length ≤ 1000000) (hr : ready D N = 0) (hl : (dat odd bs).length = 256) :
    Calls Tryz.prog 11 #[.pointer (some ⟨db, 0, none⟩), .pointer (some ⟨xb, 0, none⟩), .agg #[.int .i64 2, .int .i64 N, .slice A bs.length c, .bool odd, .slice AM ms.length cm]] w fun e w' => e = .returned (.bool true) ∧ Both w' base db sb xb (writeD D N (dat odd bs)).1 ∧ FB base db sb xb w w' ∧ w.heap.size < w'.heap.size := by
  have HC := Aside0.mk hC
  have HBY := Aside0.mk hby
  clear hC hby
  have HR := Aside0.mk hr
  have HL := Aside0.mk hl
  obtain ⟨dd, hdd⟩ : ∃ dd, dd = dat odd bs := ⟨_, rfl⟩
  have HDD := Aside0.mk hdd
  obtain ⟨r, hrr⟩ : ∃ r, r = (writeD D N (dat odd bs)).2 := ⟨_, rfl⟩
  have HRR := Aside0.mk hrr
  clear hr hl hdd hrr
  have hal : Below w.heap.size w (w.alloc (.cells #[.int .i64 2, .int .i64 N, .slice A bs.length c, .bool odd, .slice AM ms.length cm] 45)) := (Below.refl _ _).alloc (Nat.le_refl _) _
  obtain ⟨W, hW⟩ : ∃ W, W = w.alloc (.cells #[.int .i64 2, .int .i64 N, .slice A bs.length c, .bool odd, .slice AM ms.length cm] 45) := ⟨_, rfl⟩
  have HP := Aside0.mk (h.below hal)
  have HAL := Aside0.mk (show Below w.heap.size w W by rw [hW]; exact hal)
  have HF0 := Aside0.mk (show FB base db sb xb w W by rw [hW]; exact FB.of_below hal)
  have HWE := Aside0.mk hW
  have HGT := Aside0.mk (show w.heap.size < W.heap.size by rw [hW]; simp)
  have HBX := Aside0.mk (show W.heap[w.heap.size]? = some (.cells #[.int .i64 2, .int .i64 N, .slice A bs.length c, .bool odd, .slice AM ms.length cm] 45 (0, 0)) by rw [hW]; exact heap_alloc_new w _)
  have HLT := Aside0.mk h.lt
  have HLOW := Aside0.mk h.low
  have HBS := Aside0.mk h.bs
  clear h hal
  rw [← hW] at HP
  have hm0 : ∀ m : Go.Reg.In (fun x : World => x.heap[w.heap.size]? = some (.cells #[.int .i64 2, .int .i64 N, .slice A bs.length c, .bool odd, .slice AM ms.length cm] 45 (0, 0))), m.w.cell? ⟨w.heap.size, 0, none⟩ = some (.int .i64 2) := fun m => cell_blk m.h
  have hm1 : ∀ m : Go.Reg.In (fun x : World => x.heap[w.heap.size]? = some (.cells #[.int .i64 2, .int .i64 N, .slice A bs.length c, .bool odd, .slice AM ms.length cm] 45 (0, 0))), m.w.cell? ⟨w.heap.size, 1, none⟩ = some (.int .i64 N) := fun m => cell_blk m.h
  have hm2 : ∀ m : Go.Reg.In (fun x : World => x.heap[w.heap.size]? = some (.cells #[.int .i64 2, .int .i64 N, .slice A bs.length c, .bool odd, .slice AM ms.length cm] 45 (0, 0))), m.w.cell? ⟨w.heap.size, 2, none⟩ = some (.slice A bs.length c) := fun m => cell_blk m.h
  have hm3 : ∀ m : Go.Reg.In (fun x : World => x.heap[w.heap.size]? = some (.cells #[.int .i64 2, .int .i64 N, .slice A bs.length c, .bool odd, .slice AM ms.length cm] 45 (0, 0))), m.w.cell? ⟨w.heap.size, 3, none⟩ = some (.bool odd) := fun m => cell_blk m.h
  have hm4 : ∀ m : Go.Reg.In (fun x : World => x.heap[w.heap.size]? = some (.cells #[.int .i64 2, .int .i64 N, .slice A bs.length c, .bool odd, .slice AM ms.length cm] 45 (0, 0))), m.w.cell? ⟨w.heap.size, 4, none⟩ = some (.slice AM ms.length cm) := fun m => cell_blk m.h
  have HKB := Aside0.mk (show ∀ x y : World, x.heap[w.heap.size]? = some (.cells #[.int .i64 2, .int .i64 N, .slice A bs.length c, .bool odd, .slice AM ms.length cm] 45 (0, 0)) → FB base db sb xb x y → y.heap[w.heap.size]? = some (.cells #[.int .i64 2, .int .i64 N, .slice A bs.length c, .bool odd, .slice AM ms.length cm] 45 (0, 0)) from fun x y hx f => (f.block _ (blk_lt hx) (by rintro (h | h | h) <;> (have := HLT.out; omega)) (fun c' t fz hc' => by rw [hx] at hc'; cases hc'; rintro ⟨_, h | h | h⟩ <;> exact absurd h (by decide))).trans hx)
  clear hW
  go_enter Tryz.func11, Tryz.ntmps11
  go_wp2_with fail
  rw [← HWE.out]
  refine Go.Reg.region (fun x : World => x.heap[w.heap.size]? = some (.cells #[.int .i64 2, .int .i64 N, .slice A bs.length c, .bool odd, .slice AM ms.length cm] 45 (0, 0))) [.s, .s, .s, .s, .w, .w, .s, .s, .s, .s, .w, .w, .s, .s] (by kernel_rfl) (by kernel_rfl) (show W.drew.heap[w.heap.size]? = _ from HBX.out) (fun ne => ?_)
  refine Go.Reg.lex_q 4 _ _ _ _ (by rfl) ?_; simp only [List.take_succ_cons, List.take_zero, List.drop_succ_cons, List.drop_zero]; (repeat (go_big_quiet_step (rfl))); refine wpQuiet_nil ?_
  refine Go.Reg.step_w (fun K hK => ?_)
  go_wp2_with fail
  have HW1 := Aside0.mk (below_drew1 (Below.refl W.heap.size W))
  refine (data_any (base := base) 2 N A bs c odd AM ms.length cm (fun x hx => HC.out x (((HAL.out.trans (HW1.out.mono HAL.out.size)).mono HBS.out).trans hx)) hc HP.out.bs).mono ?_
  rintro e w2 ⟨A2, c2, rfl, hC2, b2⟩
  have HC2 := Aside0.mk hC2
  have HP2 := Aside0.mk (HP.out.below (HW1.out.trans b2))
  have HF2 := Aside0.mk (show FB base db sb xb W w2 from FB.of_below (HW1.out.trans b2))
  clear hC2 b2
  go_wp2_with fail
  refine hK.out _ _ (HKB.out _ _ HBX.out HF2.out) ?_
  clear hK K
  try simp only [Act.put, List.setIfInBounds_toArray, List.set_cons_succ, List.set_cons_zero]
  refine Go.Reg.step_w (fun K hK => ?_)
  go_wp2_with fail
  obtain ⟨a2, rfl⟩ : ∃ a, A2 = some a := by obtain ⟨a, ha, _⟩ := (HC2.out _ (Below.refl _ _)).2.2 (by rw [HL.out]; omega); exact ⟨a, ha⟩
  refine (write_yes HP2.out.pd N HR.out a2 c2 (dat odd bs) HL.out (dat_mem odd bs HBY.out) HC2.out hfew).mono ?_
  rintro e w3 ⟨rfl, p3, fp3⟩
  rw [← HRR.out]
  have HP3 := Aside0.mk p3
  have HX3 := Aside0.mk (HP2.out.fp fp3)
  have f3 : FB base db sb xb w2 w3 := FB.of_fp fp3
  clear p3 fp3
  have HF3 := Aside0.mk (HF2.out.trans f3)
  clear f3
  go_wp2_with fail
  refine hK.out _ _ (HKB.out _ _ HBX.out HF3.out) ?_
  clear hK K
  try simp only [Act.put, List.setIfInBounds_toArray, List.set_cons_succ, List.set_cons_zero]
  refine Go.Reg.lex_q 4 _ _ _ _ (by rfl) ?_; simp only [List.take_succ_cons, List.take_zero, List.drop_succ_cons, List.drop_zero]; (repeat (go_big_quiet_step (rfl))); refine wpQuiet_nil ?_
  refine Go.Reg.step_w (fun K hK => ?_)
  go_wp2_with fail
  have hbw := FB.below (HF0.out.trans HF3.out) HLOW.out.1 HLOW.out.2.1 HLOW.out.2.2 HBS.out
  refine (data_any (base := base) 2 N A bs c odd AM ms.length cm (fun x hx => HC.out x (hbw.trans hx)) hc (Nat.le_trans HBS.out hbw.size)).mono ?_
  rintro e w4 ⟨A4, c4, rfl, hC4, b4⟩
  have HC4 := Aside0.mk hC4
  have HP4 := Aside0.mk (HP3.out.below b4)
  have HX4 := Aside0.mk (HX3.out.below b4)
  have HF4 := Aside0.mk (HF3.out.trans (FB.of_below (db := db) (sb := sb) (xb := xb) b4))
  clear hC4 b4 hbw HP3 HX3
  go_wp2_with fail
  refine hK.out _ _ (HKB.out _ _ HBX.out HF4.out) ?_
  clear hK K
  try simp only [Act.put, List.setIfInBounds_toArray, List.set_cons_succ, List.set_cons_zero]
  refine Go.Reg.step_w (fun K hK => ?_)
  go_wp2_with fail
  obtain ⟨a4, rfl⟩ : ∃ a, A4 = some a := by obtain ⟨a, ha, _⟩ := (HC4.out _ (Below.refl _ _)).2.2 (by rw [HL.out]; omega); exact ⟨a, ha⟩
  refine (xwrite_yes HX4.out N HR.out a4 c4 (dat odd bs) HL.out (dat_mem odd bs HBY.out) HC4.out hfew).mono ?_
  rintro e w5 ⟨rfl, p5, fx5⟩
  rw [← HRR.out]
  have HP5 := Aside0.mk (PD.fx HP4.out HX4.out fx5)
  have HX5 := Aside0.mk p5
  have f5 : FB base db sb xb w4 w5 := FB.of_fx fx5
  clear p5 fx5
  have HF5 := Aside0.mk (HF4.out.trans f5)
  clear f5
  go_wp2_with fail
  refine hK.out _ _ (HKB.out _ _ HBX.out HF5.out) ?_
  clear hK K
  try simp only [Act.put, List.setIfInBounds_toArray, List.set_cons_succ, List.set_cons_zero]
  refine Go.Reg.lex_q 2 _ _ _ _ (by rfl) ?_; simp only [List.take_succ_cons, List.take_zero, List.drop_succ_cons, List.drop_zero]; (repeat (go_big_quiet_step (rfl))); refine wpQuiet_nil ?_
  refine Go.Reg.lex_nil ?_
  clear hm0 hm1 hm2 hm3 hm4
  go_wp2_with fail
  go_ret
  exact ⟨rfl, ⟨HP5.out, HX5.out, Nat.le_trans HP.out.bs HF5.out.size⟩, HF0.out.trans HF5.out, Nat.lt_of_lt_of_le HGT.out (Fr.size HF5.out)⟩
end Disk
end Go.Proofs.YtclneeamemofoaaGreat
namespace Go.Proofs.YtclneeamemofoaaGreat
set_option linter.unusedVariables false
set_option linter.unusedSimpArgs false
open Go.RowKit Go.Proofs.YtclneeamemofoaaGreatW.PrintWords Go.Proofs.YtclneeamemofoaaGreatW.PrintLast Go.Proofs.YtclneeamemofoaaGreatW.PrintMore
namespace Disk
open Go.Disk PDiskDoes PChain
theorem off_ready {D : Dk} (h : Ok D) : ready D 0 = if D.off then 9 else 0 := by
  unfold ready
  have := h.few
  split
  · rfl
  · rw [if_neg (by omega)]
set_option maxHeartbeats 8000000 in
set_option maxRecDepth 100000 in
theorem do_flush_off {w : World} {base db sb xb : Nat} {D : Dk} (h : Both w base db sb xb D) (N : Int) (A : Option Addr) (bs : List Int) (c : Nat) (odd : Bool) (AM : Option Addr) (ms : List Int) (cm : Nat) (ho : D.off = true) :
    Calls Tryz.prog 11 #[.pointer (some ⟨db, 0, none⟩), .pointer (some ⟨xb, 0, none⟩), .agg #[.int .i64 3, .int .i64 N, .slice A bs.length c, .bool odd, .slice AM ms.length cm]] w fun e w' => e = .returned (.bool true) ∧ Both w' base db sb xb D ∧ FB base db sb xb w w' ∧ w.heap.size < w'.heap.size := by
  have HO := Aside0.mk ho
  have HRE := Aside0.mk (show ready D 0 = 9 by rw [off_ready h.ok, ho]; rfl)
  clear ho
  have hal : Below w.heap.size w (w.alloc (.cells #[.int .i64 3, .int .i64 N, .slice A bs.length c, .bool odd, .slice AM ms.length cm] 45)) := (Below.refl _ _).alloc (Nat.le_refl _) _
  obtain ⟨W, hW⟩ : ∃ W, W = w.alloc (.cells #[.int .i64 3, .int .i64 N, .slice A bs.length c, .bool odd, .slice AM ms.length cm] 45) := ⟨_, rfl⟩
  have HP := Aside0.mk (h.below hal)
  have HAL := Aside0.mk (show Below w.heap.size w W by rw [hW]; exact hal)
  have HF0 := Aside0.mk (show FB base db sb xb w W by rw [hW]; exact FB.of_below hal)
  have HWE := Aside0.mk hW
  have HGT := Aside0.mk (show w.heap.size < W.heap.size by rw [hW]; simp)
  have HBX := Aside0.mk (show W.heap[w.heap.size]? = some (.cells #[.int .i64 3, .int .i64 N, .slice A bs.length c, .bool odd, .slice AM ms.length cm] 45 (0, 0)) by rw [hW]; exact heap_alloc_new w _)
  have HLT := Aside0.mk h.lt
  have HLOW := Aside0.mk h.low
  have HBS := Aside0.mk h.bs
  clear h hal
  rw [← hW] at HP
  clear hW
  go_enter Tryz.func11, Tryz.ntmps11
  go_wp2_with fail
  rw [← HWE.out]
  refine (flush_no HP.out.pd (by rw [HRE.out]; decide)).mono ?_
  rintro e w2 ⟨rfl, rfl⟩
  rw [HRE.out]
  have f2 : FB base db sb xb w2 w2 := Fr.refl _ _ _
  have HF2 := Aside0.mk f2
  clear f2
  go_wp2_with fail
  refine (xflush_off HP.out.rd HO.out).mono ?_
  rintro e w3 ⟨rfl, rfl⟩
  have f3 : FB base db sb xb w3 w3 := Fr.refl _ _ _
  have HP3 := Aside0.mk HP.out.pd
  have HX3 := Aside0.mk HP.out.rd
  have HF3 := Aside0.mk (HF2.out.trans f3)
  clear f3
  go_wp2_with fail
  go_ret
  exact ⟨rfl, ⟨HP3.out, HX3.out, Nat.le_trans HP.out.bs HF3.out.size⟩, HF0.out.trans HF3.out, Nat.lt_of_lt_of_le HGT.out (Fr.size HF3.out)⟩
set_option maxHeartbeats 8000000 in
set_option maxRecDepth 100000 in
theorem do_flush_stop {w : World} {base db sb xb : Nat} {D : Dk} (h : Both w base db sb xb D) (N : Int) (A : Option Addr) (bs : List Int) (c : Nat) (odd : Bool) (AM : Option Addr) (ms : List Int) (cm : Nat) (ho : D.off = false) (hl : D.left = 0) :
    Calls Tryz.prog 11 #[.pointer (some ⟨db, 0, none⟩), .pointer (some ⟨xb, 0, none⟩), .agg #[.int .i64 3, .int .i64 N, .slice A bs.length c, .bool odd, .slice AM ms.length cm]] w fun e w' => e = .returned (.bool true) ∧ Both w' base db sb xb (deedD D) ∧ FB base db sb xb w w' ∧ w.heap.size < w'.heap.size := by
  have HO := Aside0.mk ho
  have HL := Aside0.mk hl
  have HRE := Aside0.mk (show ready D 0 = 0 by rw [off_ready h.ok, ho]; rfl)
  clear ho hl
  have hal : Below w.heap.size w (w.alloc (.cells #[.int .i64 3, .int .i64 N, .slice A bs.length c, .bool odd, .slice AM ms.length cm] 45)) := (Below.refl _ _).alloc (Nat.le_refl _) _
  obtain ⟨W, hW⟩ : ∃ W, W = w.alloc (.cells #[.int .i64 3, .int .i64 N, .slice A bs.length c, .bool odd, .slice AM ms.length cm] 45) := ⟨_, rfl⟩
  have HP := Aside0.mk (h.below hal)
  have HAL := Aside0.mk (show Below w.heap.size w W by rw [hW]; exact hal)
  have HF0 := Aside0.mk (show FB base db sb xb w W by rw [hW]; exact FB.of_below hal)
  have HWE := Aside0.mk hW
  have HGT := Aside0.mk (show w.heap.size < W.heap.size by rw [hW]; simp)
  have HBX := Aside0.mk (show W.heap[w.heap.size]? = some (.cells #[.int .i64 3, .int .i64 N, .slice A bs.length c, .bool odd, .slice AM ms.length cm] 45 (0, 0)) by rw [hW]; exact heap_alloc_new w _)
  have HLT := Aside0.mk h.lt
  have HLOW := Aside0.mk h.low
  have HBS := Aside0.mk h.bs
  clear h hal
  rw [← hW] at HP
  clear hW
  go_enter Tryz.func11, Tryz.ntmps11
  go_wp2_with fail
  rw [← HWE.out]
  refine (flush_stop HP.out.pd HRE.out HL.out).mono ?_
  rintro e w2 ⟨rfl, p2, fp2⟩
  have HX2 := Aside0.mk (HP.out.fp fp2)
  have HP2 := Aside0.mk p2
  have f2 : FB base db sb xb W w2 := FB.of_fp fp2
  clear p2 fp2
  have HF2 := Aside0.mk f2
  clear f2
  go_wp2_with fail
  refine (xflush_stop HX2.out HO.out HL.out).mono ?_
  rintro e w3 ⟨rfl, p3, fx3⟩
  have HP3 := Aside0.mk (PD.fx HP2.out HX2.out fx3)
  have HX3 := Aside0.mk p3
  have f3 : FB base db sb xb w2 w3 := FB.of_fx fx3
  clear p3 fx3
  have HF3 := Aside0.mk (HF2.out.trans f3)
  clear f3
  go_wp2_with fail
  go_ret
  exact ⟨rfl, ⟨HP3.out, HX3.out, Nat.le_trans HP.out.bs HF3.out.size⟩, HF0.out.trans HF3.out, Nat.lt_of_lt_of_le HGT.out (Fr.size HF3.out)⟩
set_option maxHeartbeats 8000000 in
set_option maxRecDepth 100000 in
theorem do_flush_yes {w : World} {base db sb xb : Nat} {D : Dk} (h : Both w base db sb xb D) (N : Int) (A : Option Addr) (bs : List Int) (c : Nat) (odd : Bool) (AM : Option Addr) (ms : List Int) (cm : Nat) (ho : D.off = false) (hl : D.left ≠ 0) (hfew : D.waits.length ≤ 1000000) :
    Calls Tryz.prog 11 #[.pointer (some ⟨db, 0, none⟩), .pointer (some ⟨xb, 0, none⟩), .agg #[.int .i64 3, .int .i64 N, .slice A bs.length c, .bool odd, .slice AM ms.length cm]] w fun e w' => e = .returned (.bool true) ∧ Both w' base db sb xb (flushD (deedD D)) ∧ FB base db sb xb w w' ∧ w.heap.size < w'.heap.size := by
  have HO := Aside0.mk ho
  have HL := Aside0.mk hl
  have HRE := Aside0.mk (show ready D 0 = 0 by rw [off_ready h.ok, ho]; rfl)
  clear ho hl
  have hal : Below w.heap.size w (w.alloc (.cells #[.int .i64 3, .int .i64 N, .slice A bs.length c, .bool odd, .slice AM ms.length cm] 45)) := (Below.refl _ _).alloc (Nat.le_refl _) _
  obtain ⟨W, hW⟩ : ∃ W, W = w.alloc (.cells #[.int .i64 3, .int .i64 N, .slice A bs.length c, .bool odd, .slice AM ms.length cm] 45) := ⟨_, rfl⟩
  have HP := Aside0.mk (h.below hal)
  have HAL := Aside0.mk (show Below w.heap.size w W by rw [hW]; exact hal)
  have HF0 := Aside0.mk (show FB base db sb xb w W by rw [hW]; exact FB.of_below hal)
  have HWE := Aside0.mk hW
  have HGT := Aside0.mk (show w.heap.size < W.heap.size by rw [hW]; simp)
  have HBX := Aside0.mk (show W.heap[w.heap.size]? = some (.cells #[.int .i64 3, .int .i64 N, .slice A bs.length c, .bool odd, .slice AM ms.length cm] 45 (0, 0)) by rw [hW]; exact heap_alloc_new w _)
  have HLT := Aside0.mk h.lt
  have HLOW := Aside0.mk h.low
  have HBS := Aside0.mk h.bs
  clear h hal
  rw [← hW] at HP
  clear hW
  go_enter Tryz.func11, Tryz.ntmps11
  go_wp2_with fail
  rw [← HWE.out]
  refine (flush_yes HP.out.pd HRE.out HL.out hfew).mono ?_
  rintro e w2 ⟨rfl, p2, fp2⟩
  have HX2 := Aside0.mk (HP.out.fp fp2)
  have HP2 := Aside0.mk p2
  have f2 : FB base db sb xb W w2 := FB.of_fp fp2
  clear p2 fp2
  have HF2 := Aside0.mk f2
  clear f2
  go_wp2_with fail
  refine (xflush_yes HX2.out HO.out HL.out hfew).mono ?_
  rintro e w3 ⟨rfl, p3, fx3⟩
  have HP3 := Aside0.mk (PD.fx HP2.out HX2.out fx3)
  have HX3 := Aside0.mk p3
  have f3 : FB base db sb xb w2 w3 := FB.of_fx fx3
  clear p3 fx3
  have HF3 := Aside0.mk (HF2.out.trans f3)
  clear f3
  go_wp2_with fail
  go_ret
  exact ⟨rfl, ⟨HP3.out, HX3.out, Nat.le_trans HP.out.bs HF3.out.size⟩, HF0.out.trans HF3.out, Nat.lt_of_lt_of_le HGT.out (Fr.size HF3.out)⟩
set_option maxHeartbeats 8000000 in
set_option maxRecDepth 100000 in
theorem do_stop {w : World} {base db sb xb : Nat} {D : Dk} (h : Both w base db sb xb D) (N : Int) (A : Option Addr) (bs : List Int) (c : Nat) (odd : Bool) (AM : Option Addr) (ms : List Int) (cm : Nat) (hN : N ≤ 9223372036854775807) :
    Calls Tryz.prog 11 #[.pointer (some ⟨db, 0, none⟩), .pointer (some ⟨xb, 0, none⟩), .agg #[.int .i64 4, .int .i64 N, .slice A bs.length c, .bool odd, .slice AM ms.length cm]] w fun e w' => e = .returned (.bool true) ∧ Both w' base db sb xb (if N < 0 then D else stopD D N) ∧ FB base db sb xb w w' ∧ w.heap.size < w'.heap.size := by
  have hal : Below w.heap.size w (w.alloc (.cells #[.int .i64 4, .int .i64 N, .slice A bs.length c, .bool odd, .slice AM ms.length cm] 45)) := (Below.refl _ _).alloc (Nat.le_refl _) _
  obtain ⟨W, hW⟩ : ∃ W, W = w.alloc (.cells #[.int .i64 4, .int .i64 N, .slice A bs.length c, .bool odd, .slice AM ms.length cm] 45) := ⟨_, rfl⟩
  have HP := Aside0.mk (h.below hal)
  have HAL := Aside0.mk (show Below w.heap.size w W by rw [hW]; exact hal)
  have HF0 := Aside0.mk (show FB base db sb xb w W by rw [hW]; exact FB.of_below hal)
  have HWE := Aside0.mk hW
  have HGT := Aside0.mk (show w.heap.size < W.heap.size by rw [hW]; simp)
  have HBX := Aside0.mk (show W.heap[w.heap.size]? = some (.cells #[.int .i64 4, .int .i64 N, .slice A bs.length c, .bool odd, .slice AM ms.length cm] 45 (0, 0)) by rw [hW]; exact heap_alloc_new w _)
  have HLT := Aside0.mk h.lt
  have HLOW := Aside0.mk h.low
  have HBS := Aside0.mk h.bs
  clear h hal
  rw [← hW] at HP
  have HKB := Aside0.mk (show ∀ x y : World, x.heap[w.heap.size]? = some (.cells #[.int .i64 4, .int .i64 N, .slice A bs.length c, .bool odd, .slice AM ms.length cm] 45 (0, 0)) → FB base db sb xb x y → y.heap[w.heap.size]? = some (.cells #[.int .i64 4, .int .i64 N, .slice A bs.length c, .bool odd, .slice AM ms.length cm] 45 (0, 0)) from fun x y hx f => (f.block _ (blk_lt hx) (by rintro (h | h | h) <;> (have := HLT.out; omega)) (fun c' t fz hc' => by rw [hx] at hc'; cases hc'; rintro ⟨_, h | h | h⟩ <;> exact absurd h (by decide))).trans hx)
  clear hW
  have hm1 : ∀ m : Go.Reg.In (fun x : World => x.heap[w.heap.size]? = some (.cells #[.int .i64 4, .int .i64 N, .slice A bs.length c, .bool odd, .slice AM ms.length cm] 45 (0, 0))), m.w.cell? ⟨w.heap.size, 1, none⟩ = some (.int .i64 N) := fun m => cell_blk m.h
  obtain ⟨r, hr⟩ : ∃ r : Int, r = (if N < 0 then 1 else 0) := ⟨_, rfl⟩
  have HR := Aside0.mk hr
  clear hr
  obtain ⟨D', hD'⟩ : ∃ D', D' = (if N < 0 then D else stopD D N) := ⟨_, rfl⟩
  rw [← hD']
  have HD := Aside0.mk hD'
  clear hD'
  go_enter Tryz.func11, Tryz.ntmps11
  go_wp2_with fail
  rw [← HWE.out]
  refine Go.Reg.region (fun x : World => x.heap[w.heap.size]? = some (.cells #[.int .i64 4, .int .i64 N, .slice A bs.length c, .bool odd, .slice AM ms.length cm] 45 (0, 0))) [.s, .s, .s, .w, .s, .s, .s, .w, .s, .s] (by kernel_rfl) (by kernel_rfl) (show W.drew.heap[w.heap.size]? = _ from HBX.out) (fun ne => ?_)
  refine Go.Reg.lex_q 3 _ _ _ _ (by rfl) ?_; simp only [List.take_succ_cons, List.take_zero, List.drop_succ_cons, List.drop_zero]; (repeat (go_big_quiet_step (rfl))); refine wpQuiet_nil ?_
  refine Go.Reg.step_w (fun K hK => ?_)
  go_wp2_with fail
  have HW1 := Aside0.mk (below_drew1 (Below.refl W.heap.size W))
  refine (stop_any N (HP.out.pd.below HW1.out) hN).mono ?_
  rintro e w2 ⟨rfl, p2, fp2⟩
  rw [← HR.out]
  have HX2 := Aside0.mk ((HP.out.below HW1.out).fp fp2)
  rw [← HD.out] at p2
  have HP2 := Aside0.mk p2
  have HF2 := Aside0.mk ((FB.of_below (db := db) (sb := sb) (xb := xb) HW1.out).trans (FB.of_fp fp2))
  clear p2 fp2
  go_wp2_with fail
  refine hK.out _ _ (HKB.out _ _ HBX.out HF2.out) ?_
  clear hK K
  try simp only [Act.put, List.setIfInBounds_toArray, List.set_cons_succ, List.set_cons_zero]
  refine Go.Reg.lex_q 3 _ _ _ _ (by rfl) ?_; simp only [List.take_succ_cons, List.take_zero, List.drop_succ_cons, List.drop_zero]; (repeat (go_big_quiet_step (rfl))); refine wpQuiet_nil ?_
  refine Go.Reg.step_w (fun K hK => ?_)
  go_wp2_with fail
  refine (xstop_any N HX2.out hN).mono ?_
  rintro e w3 ⟨rfl, p3, fx3⟩
  rw [← HR.out]
  have HP3 := Aside0.mk (PD.fx HP2.out HX2.out fx3)
  rw [← HD.out] at p3
  have HX3 := Aside0.mk p3
  have HF3 := Aside0.mk (HF2.out.trans (FB.of_fx fx3))
  clear p3 fx3
  go_wp2_with fail
  refine hK.out _ _ (HKB.out _ _ HBX.out HF3.out) ?_
  clear hK K
  try simp only [Act.put, List.setIfInBounds_toArray, List.set_cons_succ, List.set_cons_zero]
  refine Go.Reg.lex_q 2 _ _ _ _ (by rfl) ?_; simp only [List.take_succ_cons, List.take_zero, List.drop_succ_cons, List.drop_zero]; (repeat (go_big_quiet_step (rfl))); refine wpQuiet_nil ?_
  refine Go.Reg.lex_nil ?_
  clear hm1
  go_wp2_with fail
  go_ret
  exact ⟨rfl, ⟨HP3.out, HX3.out, Nat.le_trans HP.out.bs HF3.out.size⟩, HF0.out.trans HF3.out, Nat.lt_of_lt_of_le HGT.out (Fr.size HF3.out)⟩
set_option maxHeartbeats 8000000 in
set_option maxRecDepth 100000 in
theorem do_crash {w : World} {base db sb xb : Nat} {D : Dk} (h : Both w base db sb xb D) (N : Int) (A : Option Addr) (bs : List Int) (c : Nat) (odd : Bool) (AM : Option Addr) (ms : List Int) (cm : Nat) (hM : ∀ x, Below base w x → Kd.C (Kd.int .i64) x AM ms.length ms) (hcm : ms.length ≤ cm) :
    Calls Tryz.prog 11 #[.pointer (some ⟨db, 0, none⟩), .pointer (some ⟨xb, 0, none⟩), .agg #[.int .i64 5, .int .i64 N, .slice A bs.length c, .bool odd, .slice AM ms.length cm]] w fun e w' => e = .returned (.bool true) ∧ Both w' base db sb xb (crashD D ms) ∧ FB base db sb xb w w' ∧ w.heap.size < w'.heap.size := by
  have HM := Aside0.mk hM
  clear hM
  have hal : Below w.heap.size w (w.alloc (.cells #[.int .i64 5, .int .i64 N, .slice A bs.length c, .bool odd, .slice AM ms.length cm] 45)) := (Below.refl _ _).alloc (Nat.le_refl _) _
  obtain ⟨W, hW⟩ : ∃ W, W = w.alloc (.cells #[.int .i64 5, .int .i64 N, .slice A bs.length c, .bool odd, .slice AM ms.length cm] 45) := ⟨_, rfl⟩
  have HP := Aside0.mk (h.below hal)
  have HAL := Aside0.mk (show Below w.heap.size w W by rw [hW]; exact hal)
  have HF0 := Aside0.mk (show FB base db sb xb w W by rw [hW]; exact FB.of_below hal)
  have HWE := Aside0.mk hW
  have HGT := Aside0.mk (show w.heap.size < W.heap.size by rw [hW]; simp)
  have HBX := Aside0.mk (show W.heap[w.heap.size]? = some (.cells #[.int .i64 5, .int .i64 N, .slice A bs.length c, .bool odd, .slice AM ms.length cm] 45 (0, 0)) by rw [hW]; exact heap_alloc_new w _)
  have HLT := Aside0.mk h.lt
  have HLOW := Aside0.mk h.low
  have HBS := Aside0.mk h.bs
  clear h hal
  rw [← hW] at HP
  have HKB := Aside0.mk (show ∀ x y : World, x.heap[w.heap.size]? = some (.cells #[.int .i64 5, .int .i64 N, .slice A bs.length c, .bool odd, .slice AM ms.length cm] 45 (0, 0)) → FB base db sb xb x y → y.heap[w.heap.size]? = some (.cells #[.int .i64 5, .int .i64 N, .slice A bs.length c, .bool odd, .slice AM ms.length cm] 45 (0, 0)) from fun x y hx f => (f.block _ (blk_lt hx) (by rintro (h | h | h) <;> (have := HLT.out; omega)) (fun c' t fz hc' => by rw [hx] at hc'; cases hc'; rintro ⟨_, h | h | h⟩ <;> exact absurd h (by decide))).trans hx)
  clear hW
  go_enter Tryz.func11, Tryz.ntmps11
  go_wp2_with fail
  rw [← HWE.out]
  have HBW := Aside0.mk (show Below base w W from HAL.out.mono HBS.out)
  refine (crash_any HP.out.pd AM cm ms (HM.out _ HBW.out) hcm (fun x hx => HM.out _ (HBW.out.trans ⟨hx.os, hx.tape, hx.output, hx.size, fun k hk => hx.block k (Nat.lt_of_lt_of_le hk HP.out.bs) (by have := HLOW.out; omega) (fun _ _ _ _ h => h)⟩))).mono ?_
  rintro e w2 ⟨⟨v2, rfl⟩, p2, fp2⟩
  have HX2 := Aside0.mk (HP.out.fp fp2)
  have HP2 := Aside0.mk p2
  have HF2 := Aside0.mk (show FB base db sb xb W w2 from FB.of_fp fp2)
  have c4 : w2.cell? ⟨w.heap.size, 4, none⟩ = some (.slice AM ms.length cm) := cell_blk (HKB.out _ _ HBX.out HF2.out)
  clear p2 fp2
  go_wp2_with fail
  have HBW2 := Aside0.mk (HBW.out.trans (FB.below HF2.out HLOW.out.1 HLOW.out.2.1 HLOW.out.2.2 HP.out.bs))
  refine (xcrash_any HX2.out AM cm ms (HM.out _ HBW2.out) (fun x hx => HM.out _ (HBW2.out.trans (FB.below (FB.of_fx (db := db) (sb := sb) hx) HLOW.out.1 HLOW.out.2.1 HLOW.out.2.2 (Nat.le_trans HBS.out HBW2.out.size))))).mono ?_
  rintro e w3 ⟨⟨v3, rfl⟩, p3, fx3⟩
  have HP3 := Aside0.mk (PD.fx HP2.out HX2.out fx3)
  have HX3 := Aside0.mk p3
  have HF3 := Aside0.mk (HF2.out.trans (FB.of_fx fx3))
  clear p3 fx3 c4
  go_wp2_with fail
  go_ret
  exact ⟨rfl, ⟨HP3.out, HX3.out, Nat.le_trans HP.out.bs HF3.out.size⟩, HF0.out.trans HF3.out, Nat.lt_of_lt_of_le HGT.out (Fr.size HF3.out)⟩
set_option maxHeartbeats 8000000 in
set_option maxRecDepth 100000 in
theorem do_else {w : World} {base db sb xb : Nat} {D : Dk} (h : Both w base db sb xb D) (K : Int) (N : Int) (A : Option Addr) (bs : List Int) (c : Nat) (odd : Bool) (AM : Option Addr) (ms : List Int) (cm : Nat) (h1 : (K == 1) = false) (h2 : (K == 2) = false) (h3 : (K == 3) = false) (h4 : (K == 4) = false) (h5 : (K == 5) = false) :
    Calls Tryz.prog 11 #[.pointer (some ⟨db, 0, none⟩), .pointer (some ⟨xb, 0, none⟩), .agg #[.int .i64 K, .int .i64 N, .slice A bs.length c, .bool odd, .slice AM ms.length cm]] w fun e w' => e = .returned (.bool true) ∧ Both w' base db sb xb D ∧ FB base db sb xb w w' ∧ w.heap.size < w'.heap.size := by
  have hal : Below w.heap.size w (w.alloc (.cells #[.int .i64 K, .int .i64 N, .slice A bs.length c, .bool odd, .slice AM ms.length cm] 45)) := (Below.refl _ _).alloc (Nat.le_refl _) _
  obtain ⟨W, hW⟩ : ∃ W, W = w.alloc (.cells #[.int .i64 K, .int .i64 N, .slice A bs.length c, .bool odd, .slice AM ms.length cm] 45) := ⟨_, rfl⟩
  have HP := Aside0.mk (h.below hal)
  have HAL := Aside0.mk (show Below w.heap.size w W by rw [hW]; exact hal)
  have HF0 := Aside0.mk (show FB base db sb xb w W by rw [hW]; exact FB.of_below hal)
  have HWE := Aside0.mk hW
  have HGT := Aside0.mk (show w.heap.size < W.heap.size by rw [hW]; simp)
  have HBX := Aside0.mk (show W.heap[w.heap.size]? = some (.cells #[.int .i64 K, .int .i64 N, .slice A bs.length c, .bool odd, .slice AM ms.length cm] 45 (0, 0)) by rw [hW]; exact heap_alloc_new w _)
  have HLT := Aside0.mk h.lt
  have HLOW := Aside0.mk h.low
  have HBS := Aside0.mk h.bs
  clear h hal
  rw [← hW] at HP
  clear hW
  go_enter Tryz.func11, Tryz.ntmps11
  go_wp2_with fail
  rw [← HWE.out]
  go_ret
  exact ⟨rfl, HP.out, HF0.out, HGT.out⟩
theorem beq_no {a b : Int} (h : a ≠ b) : (a == b) = false := by simpa using h
theorem do_any {w : World} {base db sb xb : Nat} {D : Dk} (h : Both w base db sb xb D) (K N : Int) (A : Option Addr) (bs : List Int) (c : Nat) (odd : Bool) (AM : Option Addr) (ms : List Int) (cm : Nat) (hC : ∀ x, Below base w x → Kd.C (Kd.int .u8) x A bs.length bs) (hc : bs.length ≤ c) (hby : ∀ x ∈ bs, 0 ≤ x ∧ x ≤ 255)
    (hM : ∀ x, Below base w x → Kd.C (Kd.int .i64) x AM ms.length ms) (hcm : ms.length ≤ cm) (hN : N ≤ 9223372036854775807) (hfew : D.waits.length ≤ 1000000) :
    Calls Tryz.prog 11 #[.pointer (some ⟨db, 0, none⟩), .pointer (some ⟨xb, 0, none⟩), .agg #[.int .i64 K, .int .i64 N, .slice A bs.length c, .bool odd, .slice AM ms.length cm]] w fun e w' => e = .returned (.bool true) ∧ Both w' base db sb xb (doD D K N bs odd ms) ∧ FB base db sb xb w w' ∧ w.heap.size < w'.heap.size := by
  unfold doD
  by_cases h1 : K = 1
  · subst h1
    rw [if_pos rfl]
    exact do_read h N A bs.length c odd AM ms.length cm hfew
  rw [if_neg h1]
  by_cases h2 : K = 2
  · subst h2
    rw [if_pos rfl]
    by_cases hr : ready D N = 0
    · by_cases hl : (dat odd bs).length = 256
      · exact do_write_yes h N A bs c odd AM ms cm hC hc hby hfew hr hl
      · have : (writeD D N (dat odd bs)).1 = D := by unfold writeD; rw [if_neg (by omega), if_pos hl]
        rw [this]
        exact do_write_size h N A bs c odd AM ms cm hC hc hby hfew hr hl
    · have : (writeD D N (dat odd bs)).1 = D := by unfold writeD; rw [if_pos hr]
      rw [this]
      exact do_write_no h N A bs c odd AM ms cm hC hc hby hfew hr
  rw [if_neg h2]
  by_cases h3 : K = 3
  · subst h3
    rw [if_pos rfl]
    unfold flushF
    rw [off_ready h.ok]
    cases ho : D.off with
    | true =>
      rw [if_pos (by decide)]
      exact do_flush_off h N A bs c odd AM ms cm ho
    | false =>
      rw [if_neg (by decide)]
      by_cases hl : D.left = 0
      · rw [if_pos hl]
        exact do_flush_stop h N A bs c odd AM ms cm ho hl
      · rw [if_neg hl]
        exact do_flush_yes h N A bs c odd AM ms cm ho hl hfew
  rw [if_neg h3]
  by_cases h4 : K = 4
  · subst h4
    rw [if_pos rfl]
    exact do_stop h N A bs c odd AM ms cm hN
  rw [if_neg h4]
  by_cases h5 : K = 5
  · subst h5
    rw [if_pos rfl]
    exact do_crash h N A bs c odd AM ms cm hM hcm
  rw [if_neg h5]
  exact do_else h K N A bs c odd AM ms cm (beq_no h1) (beq_no h2) (beq_no h3) (beq_no h4) (beq_no h5)
end Disk
end Go.Proofs.YtclneeamemofoaaGreat
end
section
namespace Go.Proofs.YtclneeamemofoaaGreat
set_option linter.unusedVariables false
set_option linter.unusedSimpArgs false
open Go.RowKit Go.Proofs.YtclneeamemofoaaGreatW.PrintWords Go.Proofs.YtclneeamemofoaaGreatW.PrintLast Go.Proofs.YtclneeamemofoaaGreatW.PrintMore
namespace Disk
open Go.Disk PDiskDoes PChain
theorem write_ready {D : Dk} {N : Int} {bs : List Int} (hr : ready D N ≠ 0) : writeD D N bs = (D, ready D N) := by unfold writeD; rw [if_pos hr]
theorem write_long {D : Dk} {N : Int} {bs : List Int} (hr : ready D N = 0) (hl : bs.length ≠ 256) : writeD D N bs = (D, 11) := by unfold writeD; rw [if_neg (by omega), if_pos hl]
theorem write_uni {w : World} {base db sb : Nat} {D : Dk} (h : PD w base db sb D) (N : Int) (A : Option Addr) (c : Nat) (bs : List Int) (hby : ∀ x ∈ bs, 0 ≤ x ∧ x ≤ 255) (hC : ∀ x, Below w.heap.size w x → Kd.C (Kd.int .u8) x A bs.length bs) (hfew : D.waits.length ≤ 1000000) :
    Calls Tryz.prog 23 #[.pointer (some ⟨db, 0, none⟩), .int .i64 N, .slice A bs.length c] w fun e w' => e = .returned (.int .i64 (writeD D N bs).2) ∧ PD w' base db sb (writeD D N bs).1 ∧ FP base db sb w w' := by
  by_cases hr : ready D N = 0
  · by_cases hl : bs.length = 256
    · obtain ⟨a, rfl⟩ : ∃ a, A = some a := by obtain ⟨a, ha, _⟩ := (hC _ (Below.refl _ _)).2.2 (by omega); exact ⟨a, ha⟩
      exact write_yes h N hr a c bs hl hby hC hfew
    · rw [write_long hr hl]
      refine (write_size h N hr A _ c hl).mono ?_
      rintro e w' ⟨he, rfl⟩
      exact ⟨he, h, .refl _ _ _⟩
  · rw [write_ready hr]
    refine (write_no h N hr A _ c).mono ?_
    rintro e w' ⟨he, rfl⟩
    exact ⟨he, h, .refl _ _ _⟩
structure Pair (w : World) (base db sb xb : Nat) (D X : Dk) : Prop where
  pd : PD w base db sb D
  rd : RD w base sb xb X
  bs : base ≤ w.heap.size
theorem Pair.low {w : World} {base db sb xb : Nat} {D X : Dk} (h : Pair w base db sb xb D X) : base ≤ db ∧ base ≤ sb ∧ base ≤ xb := by
  obtain ⟨⟨_, _, _, p⟩, ⟨_, _, r⟩, _⟩ := h
  exact ⟨p.dbase, p.sbase, r.xbase⟩
theorem Pair.below {w w' : World} {base db sb xb : Nat} {D X : Dk} (h : Pair w base db sb xb D X) (b : Below w.heap.size w w') : Pair w' base db sb xb D X := ⟨h.pd.below b, h.rd.below b, Nat.le_trans h.bs b.size⟩
theorem Pair.fp {w w' : World} {base db sb xb : Nat} {D X : Dk} (h : Pair w base db sb xb D X) (f : FP base db sb w w') : RD w' base sb xb X := by
  obtain ⟨⟨_, _, _, p⟩, ⟨vs, vw, r⟩, _⟩ := h
  exact ⟨vs, vw, r.fp p.cells p.safe f⟩
end Disk
end Go.Proofs.YtclneeamemofoaaGreat
end
