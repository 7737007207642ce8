/- Part 8 of the proof of SuperPuts: lemmas alone. -/
import Derived.Test.YtopfjmeejpamjaaZSuperPutsP6
import Derived.KernelRfl
section
namespace Go.Proofs.Ytopfjmeejpamjaa
set_option linter.unusedVariables false
set_option linter.unusedSimpArgs false
set_option linter.ambiguousOpen false
open Go.RowKit Go.Proofs.YtopfjmeejpamjaaW.PrintWords Go.Proofs.YtopfjmeejpamjaaW.PrintLast Go.Proofs.YtopfjmeejpamjaaW.PrintMore
namespace Supr
open Go.Num Go.Crc Go.Proofs.Ytopfjmeejpamjaa.Cell Go.Proofs.Ytopfjmeejpamjaa.Sect
def blockU (s : SU) : List Int := s.put.1 ++ List.replicate 192 0
def writeU (D : Go.Disk.Dk) (s : SU) : Go.Disk.Dk × Int :=
  if s.ok = true ∧ s.b = D.safe.length then
    (if (Disk.writeD D (Int.tmod s.g 2) (blockU s)).2 ≠ 0 then Disk.writeD D (Int.tmod s.g 2) (blockU s) else (Disk.flushF (Disk.writeD D (Int.tmod s.g 2) (blockU s)).1, Disk.flushR (Disk.writeD D (Int.tmod s.g 2) (blockU s)).1))
  else (D, 1)
theorem block_byte (s : SU) : ∀ y ∈ blockU s, 0 ≤ y ∧ y ≤ 255 := by
  intro y hy
  rcases List.mem_append.1 hy with h | h
  · exact put_bytes _ _ _ _ _ _ y h
  · have := (List.mem_replicate.1 h).2; omega
theorem block_len {s : SU} (h : s.ok = true) : (blockU s).length = 256 := by
  unfold blockU
  rw [List.length_append, List.length_replicate, show s.put.1.length = 64 from put_yes_len h]
theorem write_waits (D : Go.Disk.Dk) (n : Int) (b : List Int) : (Disk.writeD D n b).1.waits.length ≤ D.waits.length + 1 := by
  have := Disk.waits_do D 2 n b false []
  unfold Disk.writeD
  split
  · exact Nat.le_succ _
  · split
    · exact Nat.le_succ _
    · split <;> simp [Disk.waits_deed, Disk.waitD]
set_option maxHeartbeats 16000000 in
set_option maxRecDepth 100000 in
theorem swrite_nil {w : World} (s : SU) : Calls Try.prog 15 #[.pointer none, s.v] w fun r w' => r = .returned (.int .i64 8) ∧ Below w.heap.size w w' := by
  go_enter Try.func15, Try.ntmps15
  go_wp2_with fail
  go_ret
  exact ⟨rfl, (Below.refl _ _).alloc (Nat.le_refl _) _⟩
structure WU (w0 w : World) (s : SU) : Prop where
  bel : Below w0.heap.size w0 w
  sup : w.heap[w0.heap.size]? = some (.cells (sixU s.g s.b s.l s.p s.q s.o) 25 (0, 0))
theorem WU.step {w0 w w' : World} {s : SU} (h : WU w0 w s) (f : Below w.heap.size w w') : WU w0 w' s :=
  ⟨h.bel.trans (f.mono h.bel.size), (f.block _ (blk_lt h.sup)).trans h.sup⟩
set_option maxHeartbeats 16000000 in
set_option maxRecDepth 100000 in
theorem swrite_any {w : World} {base db sb : Nat} {D : Go.Disk.Dk} (h : Disk.PD w base db sb D) (s : SU) (hfew : D.waits.length ≤ 900000) :
    Calls Try.prog 15 #[.pointer (some ⟨db, 0, none⟩), s.v] w fun r w' => r = .returned (.int .i64 (writeU D s).2) ∧ Disk.PD w' base db sb (writeU D s).1 ∧ Disk.FP base db sb w w' := by
  have HFW := Aside0.mk hfew
  obtain ⟨w1, hw1⟩ : ∃ w1, w1 = w.alloc (.cells (sixU s.g s.b s.l s.p s.q s.o) 25) := ⟨_, rfl⟩
  have b1 : Below w.heap.size w w1 := by rw [hw1]; exact (Below.refl _ _).alloc (Nat.le_refl _) _
  have HWU := Aside0.mk (show WU w w1 s from ⟨b1, by rw [hw1]; exact heap_alloc_new w _⟩)
  have HW1 := Aside0.mk hw1
  have HPD := Aside0.mk h
  clear h hfew hw1 b1
  obtain ⟨R, hR⟩ : ∃ R, R = writeU D s := ⟨_, rfl⟩
  rw [← hR]
  have HR := Aside0.mk hR
  have hput := sput_R (w := w1) s.g s.b s.l s.p s.q s.o
  obtain ⟨P, hP⟩ : ∃ P, P = putU s.g s.b s.l s.p s.q s.o := ⟨_, rfl⟩
  rw [← hP] at hput
  have HPU := Aside0.mk hput
  have HP := Aside0.mk hP
  clear hR hput hP
  by_cases hok : s.ok = true
  · have HOK := Aside0.mk hok
    have HC := Aside0.mk (show P = (P.1, 0) from Prod.ext rfl (by rw [HP.out, put_code, if_pos hok]))
    rw [HC.out] at HPU
    have HPL := Aside0.mk (show P.1.length = 64 by rw [HP.out]; exact put_yes_len hok)
    clear hok
    go_enter Try.func15, Try.ntmps15
    go_wp2_with fail
    rw [← HW1.out]
    refine HPU.out.mono ?_
    clear HPU HW1
    rintro r w2 ⟨v2, rfl, hr2, b2⟩
    have HWU2 := Aside0.mk (HWU.out.step b2)
    have HR2 := Aside0.mk (Kd.R_lower (base' := w.heap.size) hr2 HWU.out.bel.size)
    obtain ⟨A2, c2, rfl⟩ := Kd.R_slice hr2
    rw [HPL.out] at HR2 ⊢
    clear hr2 b2 HWU
    go_upto_region 6 with (fail)
    obtain ⟨n, hn⟩ : ∃ n : Int, n = (D.safe.length : Int) := ⟨_, rfl⟩
    have HNE := Aside0.mk hn
    clear hn
    go_cut [22] from 18 to 22 (fun v22 wc => v22 = .bool (s.b != n) ∧ wc = w2.drew)
    case first =>
      refine Go.Reg.region (Below w2.heap.size w2) [.s, .s, .s, .w, .p] (by kernel_rfl) (by kernel_rfl) (below_drew1 (Below.refl _ _)) (fun ne => ?_)
      have m1 : ∀ m : Go.Reg.In (Below w2.heap.size w2), m.w.cell? ⟨w.heap.size, 1, none⟩ = some (.int .i64 s.b) := fun m => cell_blk ((m.h.block _ (blk_lt HWU2.out.sup)).trans HWU2.out.sup)
      refine Go.Reg.lex_q 3 _ _ _ _ (by rfl) ?_; simp only [List.take_succ_cons, List.take_zero, List.drop_succ_cons, List.drop_zero]; (repeat (go_big_quiet_step (rfl))); refine wpQuiet_nil ?_
      refine Go.Reg.step_w (fun KK hKK => ?_)
      have hbk := Disk.blocks_any (HPD.out.below (HWU2.out.step (below_drew1 (Below.refl w2.heap.size w2))).bel)
      rw [← HNE.out] at hbk
      have HBK := Aside0.mk hbk
      clear hbk
      go_wp2_with fail
      refine HBK.out.mono ?_
      rintro y w5 ⟨rfl, hw5⟩
      obtain rfl : w5 = w2.drew := hw5
      go_wp2_with fail
      refine hKK.out _ _ (below_drew1 (Below.refl _ _)) ?_
      clear hKK KK
      refine Go.Reg.lex_qp 1 _ _ _ _ _ (by rfl) ?_; simp only [List.take_succ_cons, List.take_zero, List.drop_succ_cons, List.drop_zero]; (repeat (go_big_quiet_step (rfl))); refine wpQuiet_nil ?_
      refine Go.Reg.lex_nil ?_
      clear m1 HBK
      go_wp2_with fail
      go_meet
      case rel => exact ⟨rfl, rfl⟩
    case rest =>
      obtain ⟨rfl, rfl⟩ := hcut
      obtain ⟨w3, hw3⟩ : ∃ w3, w3 = w2.drew := ⟨_, rfl⟩
      have HWU3 := Aside0.mk (show WU w w3 s by rw [hw3]; exact HWU2.out.step (below_drew1 (Below.refl w2.heap.size w2)))
      have HR3 := Aside0.mk (show Kd.R (Kd.int .u8) 5 w3 w.heap.size (fun _ => True) (.slice A2 64 c2) P.1 by rw [hw3]; exact Kd.R_below HR2.out (below_drew1 (Below.refl w2.heap.size w2)))
      rw [← hw3]
      clear hw3 HWU2 HR2
      by_cases hbn : s.b = n
      · have hbb : (s.b != n) = false := by simp [hbn]
        rw [hbb]
        clear hbb
        have HRV := Aside0.mk (show R = if (Disk.writeD D (Int.tmod s.g 2) (blockU s)).2 ≠ 0 then Disk.writeD D (Int.tmod s.g 2) (blockU s) else (Disk.flushF (Disk.writeD D (Int.tmod s.g 2) (blockU s)).1, Disk.flushR (Disk.writeD D (Int.tmod s.g 2) (blockU s)).1) by rw [HR.out]; unfold writeU; rw [if_pos ⟨HOK.out, by rw [hbn, HNE.out]⟩])
        have HBL := Aside0.mk (show P.1 ++ List.replicate 192 0 = blockU s by rw [HP.out]; rfl)
        have HBLL := Aside0.mk (block_len HOK.out)
        clear hbn HR HNE HOK HP HC
        go_upto_region 8 with (fail)
        obtain ⟨W, hW⟩ : ∃ W, W = Disk.writeD D (Int.tmod s.g 2) (blockU s) := ⟨_, rfl⟩
        have HWF := Aside0.mk (show W.1.waits.length ≤ 1000000 by rw [hW]; have := write_waits D (Int.tmod s.g 2) (blockU s); have := HFW.out; omega)
        rw [← hW] at HRV
        have HWW := Aside0.mk hW
        clear hW
        go_cut [7] from 23 to 32 (fun v7 wc => v7 = .int .i64 W.2 ∧ Aside0 (Disk.PD wc base db sb W.1) ∧ Aside0 (Disk.FP base db sb w wc))
        case first =>
          refine Go.Reg.region (fun y => y.heap[w.heap.size]? = some (.cells (sixU s.g s.b s.l s.p s.q s.o) 25 (0, 0))) [.s, .s, .s, .s, .s, .s, .s, .s, .w, .w, .p] (by kernel_rfl) (by kernel_rfl) (show w3.drew.heap[w.heap.size]? = _ from HWU3.out.sup) (fun ne => ?_)
          have m0 : ∀ m : Go.Reg.In (fun y => y.heap[w.heap.size]? = some (.cells (sixU s.g s.b s.l s.p s.q s.o) 25 (0, 0))), m.w.cell? ⟨w.heap.size, 0, none⟩ = some (.int .i64 s.g) := fun m => cell_blk m.h
          refine Go.Reg.lex_q 8 _ _ _ _ (by rfl) ?_; simp only [List.take_succ_cons, List.take_zero, List.drop_succ_cons, List.drop_zero]; (repeat (go_big_quiet_step (rfl))); refine wpQuiet_nil ?_
          clear m0
          obtain ⟨w4, hw4⟩ : ∃ w4, w4 = w3.drew := ⟨_, rfl⟩
          have HWU4 := Aside0.mk (show WU w w4 s by rw [hw4]; exact HWU3.out.step (below_drew1 (Below.refl w3.heap.size w3)))
          have HR4 := Aside0.mk (show Kd.R (Kd.int .u8) 5 w4 w.heap.size (fun _ => True) (.slice A2 64 c2) P.1 by rw [hw4]; exact Kd.R_below HR3.out (below_drew1 (Below.refl w3.heap.size w3)))
          rw [← hw4]
          clear hw4 HWU3 HR3
          refine Go.Reg.step_w (fun KK hKK => ?_)
          go_wp2_with ((with_reducible refine gate_builtin (b := .append) (xs := #[.tmp 27, .tmp 30]) rfl ?_); at_builtin; refine Hid.out ?_)
          refine Lib.hid ?_
          refine Kd.R_append_zeros (Kd.int .u8) (w0 := w) w.heap.size rfl (.tmp 27) (.tmp 30) 26 3 5 (.int .u8 0) 1 rfl Try.underlying26 Try.underlying3 infoU8 rfl (by decide) (by omega) (.slice A2 64 c2) P.1 0 (kx := .i64) 192 (fun _ => True) rfl rfl rfl (fun _ _ => trivial) HR4.out (by omega) HWU4.out.bel HWU4.out.bel.size (by rw [HPL.out]; decide) ?_
          intro v5 w5 ho hb hg _
          rw [show (192 : Int).toNat = 192 from rfl, HBL.out] at ho
          have HWU5 := Aside0.mk (show WU w w5 s from ⟨hb, (hg.block _ (blk_lt HWU4.out.sup) (Kd.R_ne HR4.out HWU4.out.sup (by decide))).trans HWU4.out.sup⟩)
          obtain ⟨A5, c5, rfl⟩ := Kd.R_slice ho
          rw [HBLL.out] at ho ⊢
          have HR5 := Aside0.mk ho
          clear ho hb hg HWU4 HR4
          go_wp2_with fail
          refine hKK.out _ _ HWU5.out.sup ?_
          clear hKK KK
          refine Go.Reg.step_w (fun KK hKK => ?_)
          have hwr := Disk.write_uni (HPD.out.below HWU5.out.bel) (Int.tmod s.g 2) A5 c5 (blockU s) (block_byte s) (by rw [HBLL.out]; intro y hy; have := stable_R (l := blockU s) (by rw [HBLL.out]; exact HR5.out) y hy; rw [HBLL.out] at this; exact this) (by have := HFW.out; omega)
          rw [← HWW.out, HBLL.out] at hwr
          have HWR := Aside0.mk hwr
          clear hwr
          go_wp2_with fail
          refine HWR.out.mono ?_
          clear HWR
          rintro y w6 ⟨rfl, hp6, hf6⟩
          have HS6 := Aside0.mk (keep_super (HPD.out.below HWU5.out.bel) hf6 HWU5.out.sup)
          have HP6 := Aside0.mk hp6
          have HF6 := Aside0.mk (Disk.Fr.trans (.of_below HWU5.out.bel) hf6)
          clear hp6 hf6 HWU5 HR5
          go_wp2_with fail
          refine hKK.out _ _ HS6.out ?_
          clear hKK KK
          refine Go.Reg.lex_qp 1 _ _ _ _ _ (by rfl) ?_; simp only [List.take_succ_cons, List.take_zero, List.drop_succ_cons, List.drop_zero]; (repeat (go_big_quiet_step (rfl))); refine wpQuiet_nil ?_
          refine Go.Reg.lex_nil ?_
          go_wp2_with fail
          go_meet
          case rel => exact ⟨rfl, HP6, HF6⟩
        case rest =>
          obtain ⟨rfl, HP6, HF6⟩ := hcut
          obtain ⟨e, he⟩ : ∃ e, e = W.2 := ⟨_, rfl⟩
          have HRW := Aside0.mk (show R = if e ≠ 0 then W else (Disk.flushF W.1, Disk.flushR W.1) by rw [he]; exact HRV.out)
          have HEW := Aside0.mk he
          rw [← he]
          clear he HRV HWW HWU3 HR3
          by_cases he0 : e ≠ 0
          · have HRZ := Aside0.mk (show R = W by rw [HRW.out, if_pos he0])
            go_wp2_with fail
            go_ret
            exact ⟨by rw [HRZ.out, ← HEW.out]; rfl, by rw [HRZ.out]; exact HP6.out, HF6.out⟩
          · have he1 : e = 0 := Classical.byContradiction he0
            subst he1
            have HRZ := Aside0.mk (show R = (Disk.flushF W.1, Disk.flushR W.1) by rw [HRW.out, if_neg he0])
            clear he0 HRW HEW
            have hfl := Disk.flush_uni HP6.out HWF.out
            obtain ⟨q, hq⟩ : ∃ q, q = Disk.flushR W.1 := ⟨_, rfl⟩
            rw [← hq] at hfl HRZ
            have HFL := Aside0.mk hfl
            clear hfl hq
            go_wp2_with fail
            refine HFL.out.mono ?_
            clear HFL
            rintro y w7 ⟨rfl, hp7, hf7⟩
            have HP7 := Aside0.mk hp7
            have HF7 := Aside0.mk (HF6.out.trans hf7)
            clear hp7 hf7 HP6 HF6
            go_wp2_with fail
            go_ret
            exact ⟨by rw [HRZ.out]; rfl, by rw [HRZ.out]; exact HP7.out, HF7.out⟩
      · have hbb : (s.b != n) = true := by simpa using hbn
        have HRV := Aside0.mk (show R = (D, 1) by rw [HR.out]; unfold writeU; rw [if_neg (fun h => hbn (h.2.trans HNE.out.symm))])
        clear hbn HR
        go_wp2_with fail
        go_ret
        exact ⟨by rw [HRV.out]; rfl, by rw [HRV.out]; exact HPD.out.below HWU3.out.bel, .of_below HWU3.out.bel⟩
  · have HRV := Aside0.mk (show R = (D, 1) by rw [HR.out]; unfold writeU; rw [if_neg (fun h => hok h.1)])
    have HC := Aside0.mk (show P = (P.1, 1) from Prod.ext rfl (by rw [HP.out, put_code, if_neg hok]))
    rw [HC.out] at HPU
    clear hok HR
    go_enter Try.func15, Try.ntmps15
    go_wp2_with fail
    rw [← HW1.out]
    refine HPU.out.mono ?_
    clear HPU HW1
    rintro r w2 ⟨v2, rfl, hr2, b2⟩
    have HWU2 := Aside0.mk (HWU.out.step b2)
    clear hr2 b2 HWU
    go_wp2_with fail
    go_ret
    exact ⟨by rw [HRV.out]; rfl, by rw [HRV.out]; exact HPD.out.below HWU2.out.bel, .of_below HWU2.out.bel⟩
end Supr
end Go.Proofs.Ytopfjmeejpamjaa
end
section
namespace Go.Proofs.Ytopfjmeejpamjaa
set_option linter.unusedVariables false
set_option linter.unusedSimpArgs false
set_option linter.ambiguousOpen false
open Go.RowKit Go.Proofs.YtopfjmeejpamjaaW.PrintWords Go.Proofs.YtopfjmeejpamjaaW.PrintLast Go.Proofs.YtopfjmeejpamjaaW.PrintMore
namespace Supr
open Go.Num Go.Crc Go.Proofs.Ytopfjmeejpamjaa.Cell Go.Proofs.Ytopfjmeejpamjaa.Sect
structure GX (w0 w : World) (sx : Nat) (x : Sec) (A : Option Addr) (c : Nat) : Prop where
  below : Below w0.heap.size w0 w
  zero : w.heap[w0.heap.size]? = some (.cells (sixU 0 0 0 0 0 0) 25 (0, 0))
  sec : w.heap[sx]? = some (.cells #[.int .i64 x.k, .int .i64 x.e, .int .i64 x.n, .int .i64 x.l, .slice A x.d.length c] 69 (0, 0))
  row : ∀ y, Below w.heap.size w y → Kd.C (Kd.int .u8) y A x.d.length x.d
theorem GX.step {w0 w w' : World} {sx : Nat} {x : Sec} {A : Option Addr} {c : Nat} (h : GX w0 w sx x A c) (f : Below w.heap.size w w') : GX w0 w' sx x A c :=
  ⟨h.below.trans (f.mono h.below.size), (f.block _ (blk_lt h.zero)).trans h.zero, (f.block _ (blk_lt h.sec)).trans h.sec, fun y hy => h.row y (below_steps f hy)⟩
theorem GX.grown {w0 w w' : World} {sx : Nat} {x : Sec} {c base : Nat} {a : Addr} {v : Value} {xs : List Int} (h : GX w0 w sx x (some a) c) (hr : Kd.R (Kd.int .i64) 3 w base (fun _ => True) v xs) (f : w.grownBy w' v.ownBlock) (hb : Below w0.heap.size w0 w') (hrow : ∀ y, Below w'.heap.size w' y → Kd.C (Kd.int .u8) y (some a) x.d.length x.d) : GX w0 w' sx x (some a) c :=
  ⟨hb, (f.block _ (blk_lt h.zero) (Kd.R_ne hr h.zero (by decide))).trans h.zero, (f.block _ (blk_lt h.sec) (Kd.R_ne hr h.sec (by decide))).trans h.sec, hrow⟩
end Supr
end Go.Proofs.Ytopfjmeejpamjaa
end
section
namespace Go.Proofs.Ytopfjmeejpamjaa
set_option linter.unusedVariables false
set_option linter.unusedSimpArgs false
set_option linter.ambiguousOpen false
open Go.RowKit Go.Proofs.YtopfjmeejpamjaaW.PrintWords Go.Proofs.YtopfjmeejpamjaaW.PrintLast Go.Proofs.YtopfjmeejpamjaaW.PrintMore
namespace Supr
open Go.Num Go.Crc Go.Proofs.Ytopfjmeejpamjaa.Cell Go.Proofs.Ytopfjmeejpamjaa.Sect
theorem RDx_other {w : World} {base sb xb : Nat} {D : Go.Disk.Dk} {vs vw : Value} (h : Disk.RDx w base sb xb D vs vw) {ub : Nat} {uc : Array Value} (hu : w.heap[ub]? = some (.cells uc 25 (0, 0))) (k : Nat) (v : Value) : Disk.RDx (w.setCell ⟨ub, k, none⟩ v) base sb xb D vs vw :=
  ⟨h.ok, h.xbase, by simpa [World.setCell] using h.slt, h.sown, h.wown, (Below.heap_setCell _ _ _ _ (tag_ne h.cells hu (by decide))).trans h.cells, Kd.R_set h.safe hu (by decide) k v, Kd.R_set h.waits hu (by decide) k v⟩
theorem RD_six {w : World} {base sb xb : Nat} {D : Go.Disk.Dk} (h : Disk.RD w base sb xb D) {ub : Nat} {a0 a1 a2 a3 a4 a5 : Value} (hu : w.heap[ub]? = some (.cells #[a0, a1, a2, a3, a4, a5] 25 (0, 0))) (v0 v1 v2 v3 v4 v5 : Value) : Disk.RD ((((((w.setCell ⟨ub, 0, none⟩ v0).setCell ⟨ub, 1, none⟩ v1).setCell ⟨ub, 2, none⟩ v2).setCell ⟨ub, 3, none⟩ v3).setCell ⟨ub, 4, none⟩ v4).setCell ⟨ub, 5, none⟩ v5) base sb xb D := by
  obtain ⟨vs, vw, h⟩ := h
  have h1 := blk_set hu 0 v0
  have h2 := blk_set h1 1 v1
  have h3 := blk_set h2 2 v2
  have h4 := blk_set h3 3 v3
  have h5 := blk_set h4 4 v4
  exact ⟨vs, vw, RDx_other (RDx_other (RDx_other (RDx_other (RDx_other (RDx_other h hu 0 v0) h1 1 v1) h2 2 v2) h3 3 v3) h4 4 v4) h5 5 v5⟩
theorem rd_tag {w : World} {base sb xb : Nat} {D : Go.Disk.Dk} (h : Disk.RD w base sb xb D) : ∃ cs, w.heap[xb]? = some (.cells cs 103 (0, 0)) := by
  obtain ⟨vs, vw, h⟩ := h
  exact ⟨_, h.cells⟩
theorem keep_superX {w w' : World} {base sb xb ub : Nat} {D : Go.Disk.Dk} {uc : Array Value} (h : Disk.RD w base sb xb D) (f : Disk.FX base xb w w') (hu : w.heap[ub]? = some (.cells uc 25 (0, 0))) : w'.heap[ub]? = some (.cells uc 25 (0, 0)) := by
  obtain ⟨_, h1⟩ := rd_tag h
  exact (f.block ub (blk_lt hu) (fun e => tag_ne hu h1 (by decide) e) (fun c t fz hc e => by
    rw [hu] at hc
    cases hc
    rcases e.2 with e | e <;> exact absurd e (by decide))).trans hu
structure RX (w0 w : World) (base sb xb bb : Nat) (D : Go.Disk.Dk) (best : SU) : Prop where
  fx : Disk.FX base xb w0 w
  zero : w.heap[w0.heap.size]? = some (.cells (sixU 0 0 0 0 0 0) 25 (0, 0))
  best : w.heap[bb]? = some (.cells (sixU best.g best.b best.l best.p best.q best.o) 25 (0, 0))
  rd : Disk.RD w base sb xb D
  far : w0.heap.size < bb
theorem RX.step {w0 w w' : World} {base sb xb bb : Nat} {D : Go.Disk.Dk} {best : SU} (h : RX w0 w base sb xb bb D best) (f : Below w.heap.size w w') : RX w0 w' base sb xb bb D best :=
  ⟨h.fx.trans (.of_below f), (f.block _ (blk_lt h.zero)).trans h.zero, (f.block _ (blk_lt h.best)).trans h.best, h.rd.below f, h.far⟩
theorem RX.read {w0 w w' : World} {base sb xb bb : Nat} {D D' : Go.Disk.Dk} {best : SU} (h : RX w0 w base sb xb bb D best) (f : Disk.FX base xb w w') (p : Disk.RD w' base sb xb D') : RX w0 w' base sb xb bb D' best :=
  ⟨h.fx.trans f, keep_superX h.rd f h.zero, keep_superX h.rd f h.best, p, h.far⟩
theorem RX.set {w0 w : World} {base sb xb bb : Nat} {D : Go.Disk.Dk} {best : SU} (h : RX w0 w base sb xb bb D best) (s : SU) : RX w0 ((((((w.setCell ⟨bb, 0, none⟩ (.int .i64 s.g)).setCell ⟨bb, 1, none⟩ (.int .i64 s.b)).setCell ⟨bb, 2, none⟩ (.int .i64 s.l)).setCell ⟨bb, 3, none⟩ (.int .i64 s.p)).setCell ⟨bb, 4, none⟩ (.int .i64 s.q)).setCell ⟨bb, 5, none⟩ (.int .i64 s.o)) base sb xb bb D s :=
  ⟨Fr_then h.fx (six_below (Below.refl _ w) (Nat.le_of_lt h.far) _ _ _ _ _ _), (six_but _ _ _ _ _ _ _ (Nat.ne_of_lt h.far)).trans h.zero, six_set h.best _ _ _ _ _ _, RD_six h.rd h.best _ _ _ _ _ _, h.far⟩
end Supr
end Go.Proofs.Ytopfjmeejpamjaa
end
section
namespace Go.Proofs.Ytopfjmeejpamjaa
set_option linter.unusedVariables false
set_option linter.unusedSimpArgs false
set_option linter.ambiguousOpen false
open Go.RowKit Go.Proofs.YtopfjmeejpamjaaW.PrintWords Go.Proofs.YtopfjmeejpamjaaW.PrintLast Go.Proofs.YtopfjmeejpamjaaW.PrintMore
namespace Supr
open Go.Num Go.Crc Go.Proofs.Ytopfjmeejpamjaa.Cell Go.Proofs.Ytopfjmeejpamjaa.Sect
def s7 : SU := ⟨7, 16, 3, 9, 40, 7⟩
def s17 : SU := ⟨8, 17, 8, 0, 0, 0⟩
def s9 : SU := ⟨8, 16, 9, 0, 0, 0⟩
abbrev D0 : Go.Disk.Dk := Go.Disk.blankD 16
def D1 : Go.Disk.Dk := readDk D0
def D2 : Go.Disk.Dk := (writeU D1 s7).1
def D3 : Go.Disk.Dk := readDk D2
def D4 : Go.Disk.Dk := Disk.readF D3 1
def one256 : List Int := Disk.blockOf [1]
def D5 : Go.Disk.Dk := (Disk.writeD D4 1 one256).1
theorem ex0 : readU D0 = (zeroU, 6) := by kernel_rfl
theorem ex1 : (writeU D1 s7).2 = 0 := by kernel_rfl
theorem ex2 : readU D2 = (s7, 0) := by kernel_rfl
theorem ex3 : Go.Disk.ready D3 1 = 0 := by kernel_rfl
theorem ex4 : getU ((Disk.readV D3 1).take 64) = (s7, 0) := by kernel_rfl
theorem ex5 : writeU D4 s17 = (D4, 1) := by kernel_rfl
theorem ex6 : writeU D4 s9 = (D4, 1) := by kernel_rfl
theorem ex7 : readU D5 = (zeroU, 13) := by kernel_rfl
theorem ex8 : s7.ok = true := by kernel_rfl
theorem ex9 : (⟨0, 0, 0, 0, 0, 0⟩ : SU).ok = false := by kernel_rfl
theorem ex10 : D0.waits.length = 0 ∧ D1.waits.length = 0 ∧ D2.waits.length = 0 ∧ D3.waits.length = 0 ∧ D4.waits.length = 0 ∧ D5.waits.length = 1 ∧ (Disk.readV D3 1).length = 256 := by refine ⟨?_, ?_, ?_, ?_, ?_, ?_, ?_⟩ <;> kernel_rfl
theorem exB : ∀ y ∈ Disk.readV D3 1, 0 ≤ y ∧ y ≤ 255 := by
  have : (Disk.readV D3 1).all (fun y => decide (0 ≤ y ∧ y ≤ 255)) = true := by kernel_rfl
  rw [List.all_eq_true] at this
  exact fun y hy => of_decide_eq_true (this y hy)
theorem exC : ∀ y ∈ one256, 0 ≤ y ∧ y ≤ 255 := by
  have : one256.all (fun y => decide (0 ≤ y ∧ y ≤ 255)) = true := by kernel_rfl
  rw [List.all_eq_true] at this
  exact fun y hy => of_decide_eq_true (this y hy)
theorem exL : one256.length = 256 := by kernel_rfl
end Supr
end Go.Proofs.Ytopfjmeejpamjaa
end
section
namespace Go.Proofs.Ytopfjmeejpamjaa
set_option linter.unusedVariables false
set_option linter.unusedSimpArgs false
set_option linter.ambiguousOpen false
open Go.RowKit Go.Proofs.YtopfjmeejpamjaaW.PrintWords Go.Proofs.YtopfjmeejpamjaaW.PrintLast Go.Proofs.YtopfjmeejpamjaaW.PrintMore
namespace Supr
open Go.Num Go.Crc Go.Proofs.Ytopfjmeejpamjaa.Cell Go.Proofs.Ytopfjmeejpamjaa.Sect
def eqU (s t : SU) : Bool := s.g == t.g && (s.b == t.b && (s.l == t.l && (s.p == t.p && (s.q == t.q && s.o == t.o))))
theorem eqU_iff (s t : SU) : eqU s t = true ↔ s = t := by
  obtain ⟨a, b, c, d, e, f⟩ := s
  obtain ⟨a', b', c', d', e', f'⟩ := t
  unfold eqU
  simp
theorem eq_super (s t : SU) (w : World) : (Op.equalIn 10000 25 s.v t.v).run Try.prog w = .ok (eqU s t) w := by
  have u3 := Try.underlying3
  have a3 := Try.isAgg3
  have z3 := Try.sizeOf3
  have u4 := Try.underlying23
  have a4 := Try.isAgg23
  have z4 := Try.sizeOf23
  rw [show (10000 : Nat) = 9999 + 1 from rfl, Op.equalIn]
  simp only [Sem.run_bind, run_underlying Try.underlying25, Result.andThen_ok]
  go_simp
  unfold eqU
  by_cases h1 : s.g = t.g <;> by_cases h2 : s.b = t.b <;> by_cases h3 : s.l = t.l <;> by_cases h4 : s.p = t.p <;> by_cases h5 : s.q = t.q <;> by_cases h6 : s.o = t.o <;> simp [h1, h2, h3, h4, h5, h6]
theorem eq_self (s : SU) (w : World) : (Op.equalIn 10000 25 s.v s.v).run Try.prog w = .ok true w := by
  rw [eq_super, (eqU_iff s s).2 rfl]
set_option maxHeartbeats 16000000 in
set_option maxRecDepth 100000 in
theorem sread_nil {w : World} : Calls Try.prog 18 #[.pointer none] w fun r w' => r = .returned (.tuple #[zeroU.v, .int .i64 8]) ∧ Below w.heap.size w w' := by
  obtain ⟨w1, hw1⟩ : ∃ w1, w1 = (w.alloc (.cells (sixU 0 0 0 0 0 0) 25)).alloc (.cells (sixU 0 0 0 0 0 0) 25) := ⟨_, rfl⟩
  have HB1 := Aside0.mk (show Below w.heap.size w w1 by rw [hw1]; exact ((Below.refl _ _).alloc (Nat.le_refl _) _).alloc (by simp) _)
  have HZ := Aside0.mk (show w1.heap[w.heap.size]? = some (.cells (sixU 0 0 0 0 0 0) 25 (0, 0)) by
    rw [hw1, Below.heap_alloc _ _ _ (by simp)]
    exact heap_alloc_new w _)
  have HW1 := Aside0.mk hw1
  clear hw1
  go_enter Try.func18, Try.ntmps18
  go_wp2_with fail
  rw [← HW1.out]
  go_loopg [10, 5] 2 (fun gk v10 v5 wr => gk = 2 ∧ v10 = .int .i64 0 ∧ v5 = .bool true ∧ wr = w1)
  case atStart => exact ⟨rfl, rfl, rfl, rfl⟩
  case round =>
    obtain ⟨rfl, rfl, rfl, rfl⟩ := hrel
    go_wp2_with fail
    refine (Disk.read_nil _).mono ?_
    rintro r w2 ⟨rfl, hw2⟩
    obtain rfl : w2 = wr := hw2
    obtain ⟨⟨p0, p1, p2, p3, p4, p5⟩, q0, q1, q2, q3, q4, q5⟩ := cells6 HZ.out
    go_wp2_with fail
    refine bodyPost_ret (results_ct rfl _ _ w.heap.size 25 (sixU 0 0 0 0 0 0) (0, 0) _ rfl (six_set HZ.out _ _ _ _ _ _) Try.underlying25 rfl (by kernel_rfl)) rfl ?_
    exact ⟨rfl, six_below HB1.out (Nat.le_refl _) _ _ _ _ _ _⟩
structure AW (w0 w : World) (db sb : Nat) (D : Go.Disk.Dk) : Prop where
  bel : Below w0.heap.size w0 w
  pd : Disk.PD w w0.heap.size db sb D
  ldb : w0.heap.size ≤ db
  lsb : w0.heap.size ≤ sb
theorem AW.step {w0 w w' : World} {db sb : Nat} {D : Go.Disk.Dk} (h : AW w0 w db sb D) (b : Below w.heap.size w w') : AW w0 w' db sb D :=
  ⟨h.bel.trans (b.mono h.bel.size), h.pd.below b, h.ldb, h.lsb⟩
theorem AW.disk {w0 w w' : World} {db sb : Nat} {D D' : Go.Disk.Dk} (h : AW w0 w db sb D) (f : Disk.FP w0.heap.size db sb w w') (p : Disk.PD w' w0.heap.size db sb D') : AW w0 w' db sb D' :=
  ⟨h.bel.trans (Disk.FP.below f h.ldb h.lsb h.bel.size), p, h.ldb, h.lsb⟩
abbrev Sup (w : World) (b : Nat) (s : SU) : Prop := w.heap[b]? = some (.cells (sixU s.g s.b s.l s.p s.q s.o) 25 (0, 0))
theorem Sup.step {w w' : World} {b : Nat} {s : SU} (h : Sup w b s) (f : Below w.heap.size w w') : Sup w' b s := (f.block _ (blk_lt h)).trans h
theorem one_row {w : World} {b : Nat} {x : Int} (h : w.heap[b]? = some (.cells #[.int .u8 x] 5 (0, 0))) : Kd.C (Kd.int .u8) w (some ⟨b, 0, none⟩) [x].length [x] := by
  have hb : w.heap[b]? = some (.cells (([x] : List Int).map (Value.int .u8) ++ []).toArray 5 (0, 0)) := h
  exact row_at (row_of (base := 0) (ok := fun _ => True) hb (Nat.zero_le _) trivial rfl (by simp))
set_option maxHeartbeats 32000000 in
set_option maxRecDepth 100000 in
theorem awake_any (w : World) : Calls Try.prog 11 #[] w fun e w' => e = .returned (.bool true) ∧ Below w.heap.size w w' := by
  go_enter Try.func11, Try.ntmps11
  go_wp2_with fail
  refine (Disk.blank_yes 16 w (by omega)).mono ?_
  rintro e w1 ⟨db, sb, rfl, p1, b1⟩
  have HA := Aside0.mk (show AW w w1 db sb D0 from ⟨b1, p1, by obtain ⟨_, _, _, h⟩ := p1; exact h.dbase, by obtain ⟨_, _, _, h⟩ := p1; exact h.sbase⟩)
  clear p1 b1
  go_wp2_with fail
  have hr := sread_any HA.out.pd (by rw [ex10.1]; decide)
  rw [ex0] at hr
  refine hr.mono ?_
  clear hr
  rintro e w2 ⟨rfl, p2, f2⟩
  replace HA := Aside0.mk (show AW w w2 db sb D1 from HA.out.disk f2 p2)
  clear p2 f2
  go_wp2_with fail
  obtain ⟨w4, hw4⟩ : ∃ z, z = (w2.alloc (.cells #[.int .i64 zeroU.g, .int .i64 zeroU.b, .int .i64 zeroU.l, .int .i64 zeroU.p, .int .i64 zeroU.q, .int .i64 zeroU.o] 25)).alloc (.cells (sixU 7 16 3 9 40 7) 25) := ⟨_, rfl⟩
  have b4 : Below w2.heap.size w2 w4 := by rw [hw4]; exact ((Below.refl _ _).alloc (Nat.le_refl _) _).alloc (by simp) _
  have HS := Aside0.mk (show Sup w4 (w2.heap.size + 1) s7 by
    rw [hw4]
    have := heap_alloc_new (w2.alloc (.cells #[.int .i64 zeroU.g, .int .i64 zeroU.b, .int .i64 zeroU.l, .int .i64 zeroU.p, .int .i64 zeroU.q, .int .i64 zeroU.o] 25)) (.cells (sixU 7 16 3 9 40 7) 25)
    rw [World.size_alloc] at this
    exact this)
  replace HA := Aside0.mk (HA.out.step b4)
  rw [← hw4]
  obtain ⟨us, hus⟩ : ∃ us, us = w2.heap.size + 1 := ⟨_, rfl⟩
  rw [← hus] at HS ⊢
  clear hw4 b4 hus
  have hr := swrite_any HA.out.pd s7 (by rw [ex10.2.1]; decide)
  rw [ex1] at hr
  refine hr.mono ?_
  clear hr
  rintro e w5 ⟨rfl, p5, f5⟩
  replace HS := Aside0.mk (show Sup w5 us s7 from keep_super HA.out.pd f5 HS.out)
  replace HA := Aside0.mk (show AW w w5 db sb D2 from HA.out.disk f5 p5)
  clear p5 f5
  go_wp2_with fail
  have hr := sread_any HA.out.pd (by rw [ex10.2.2.1]; decide)
  rw [ex2] at hr
  refine hr.mono ?_
  clear hr
  rintro e w6 ⟨rfl, p6, f6⟩
  replace HS := Aside0.mk (show Sup w6 us s7 from keep_super HA.out.pd f6 HS.out)
  replace HA := Aside0.mk (show AW w w6 db sb D3 from HA.out.disk f6 p6)
  clear p6 f6
  go_wp2_with fail
  obtain ⟨w7, hw7⟩ : ∃ z, z = w6.alloc (.cells #[.int .i64 s7.g, .int .i64 s7.b, .int .i64 s7.l, .int .i64 s7.p, .int .i64 s7.q, .int .i64 s7.o] 25) := ⟨_, rfl⟩
  have b7 : Below w6.heap.size w6 w7 := by rw [hw7]; exact (Below.refl _ _).alloc (Nat.le_refl _) _
  have HT := Aside0.mk (show Sup w7 w6.heap.size s7 by rw [hw7]; exact heap_alloc_new w6 _)
  replace HA := Aside0.mk (HA.out.step b7)
  replace HS := Aside0.mk (HS.out.step b7)
  rw [← hw7]
  obtain ⟨ut, hut⟩ : ∃ ut, ut = w6.heap.size := ⟨_, rfl⟩
  rw [← hut] at HT ⊢
  clear hw7 b7 hut
  have hr := Disk.read_uni HA.out.pd 1 (by rw [ex10.2.2.2.1]; decide)
  rw [ex3] at hr
  refine hr.mono ?_
  clear hr
  rintro e w8 ⟨v8, rfl, hr8, p8, f8⟩
  obtain ⟨A8, c8, rfl⟩ := Kd.R_slice hr8
  have HC8 := Aside0.mk (Kd.R_reads' hr8)
  replace HS := Aside0.mk (show Sup w8 us s7 from keep_super HA.out.pd f8 HS.out)
  replace HT := Aside0.mk (show Sup w8 ut s7 from keep_super HA.out.pd f8 HT.out)
  replace HA := Aside0.mk (show AW w w8 db sb D4 from HA.out.disk f8 p8)
  clear p8 f8 hr8
  rw [ex10.2.2.2.2.2.2] at HC8 ⊢
  obtain ⟨a8, rfl⟩ : ∃ a, A8 = some a := by obtain ⟨a, ha, _⟩ := HC8.out.2.2.2.2 (by decide); exact ⟨a, ha⟩
  have hc64 : 64 ≤ c8 := by have := HC8.out.2.1; omega
  go_wp2_with fail
  have hl64 : ((Disk.readV D3 1).take 64).length = 64 := by rw [List.length_take, ex10.2.2.2.2.2.2]; decide
  have hg := sget_any (w := w8) (some a8) c8 ((Disk.readV D3 1).take 64) (by rw [hl64]; have := HC8.out.2.2; rw [← ex10.2.2.2.2.2.2] at this; exact head_C this 64 (by rw [ex10.2.2.2.2.2.2]; decide)) (fun y hy => exB y (List.mem_of_mem_take hy)) (by rw [hl64]; exact hc64) (by rw [hl64]; decide)
  rw [hl64, ex4] at hg
  refine hg.mono ?_
  clear hg hl64 hc64 HC8
  rintro e w9 ⟨rfl, b9⟩
  replace HA := Aside0.mk (HA.out.step b9)
  replace HS := Aside0.mk (HS.out.step b9)
  replace HT := Aside0.mk (HT.out.step b9)
  clear b9
  go_wp2_with fail
  obtain ⟨w10, hw10⟩ : ∃ z, z = w9.alloc (.cells #[.int .i64 s7.g, .int .i64 s7.b, .int .i64 s7.l, .int .i64 s7.p, .int .i64 s7.q, .int .i64 s7.o] 25) := ⟨_, rfl⟩
  have b10 : Below w9.heap.size w9 w10 := by rw [hw10]; exact (Below.refl _ _).alloc (Nat.le_refl _) _
  have HX := Aside0.mk (show Sup w10 w9.heap.size s7 by rw [hw10]; exact heap_alloc_new w9 _)
  replace HA := Aside0.mk (HA.out.step b10)
  replace HS := Aside0.mk (HS.out.step b10)
  replace HT := Aside0.mk (HT.out.step b10)
  rw [← hw10]
  obtain ⟨ux, hux⟩ : ∃ ux, ux = w9.heap.size := ⟨_, rfl⟩
  rw [← hux] at HX ⊢
  clear hw10 b10 hux
  have hr := swrite_any HA.out.pd s17 (by rw [ex10.2.2.2.2.1]; decide)
  rw [ex5] at hr
  refine hr.mono ?_
  clear hr
  rintro e w11 ⟨rfl, p11, f11⟩
  replace HS := Aside0.mk (show Sup w11 us s7 from keep_super HA.out.pd f11 HS.out)
  replace HT := Aside0.mk (show Sup w11 ut s7 from keep_super HA.out.pd f11 HT.out)
  replace HX := Aside0.mk (show Sup w11 ux s7 from keep_super HA.out.pd f11 HX.out)
  replace HA := Aside0.mk (show AW w w11 db sb D4 from HA.out.disk f11 p11)
  clear p11 f11
  go_wp2_with fail
  have hr := swrite_any HA.out.pd s9 (by rw [ex10.2.2.2.2.1]; decide)
  rw [ex6] at hr
  refine hr.mono ?_
  clear hr
  rintro e w12 ⟨rfl, p12, f12⟩
  replace HS := Aside0.mk (show Sup w12 us s7 from keep_super HA.out.pd f12 HS.out)
  replace HT := Aside0.mk (show Sup w12 ut s7 from keep_super HA.out.pd f12 HT.out)
  replace HX := Aside0.mk (show Sup w12 ux s7 from keep_super HA.out.pd f12 HX.out)
  replace HA := Aside0.mk (show AW w w12 db sb D4 from HA.out.disk f12 p12)
  clear p12 f12
  go_wp2_with fail
  refine sread_nil.mono ?_
  rintro e w13 ⟨rfl, b13⟩
  replace HA := Aside0.mk (HA.out.step b13)
  replace HS := Aside0.mk (HS.out.step b13)
  replace HT := Aside0.mk (HT.out.step b13)
  replace HX := Aside0.mk (HX.out.step b13)
  clear b13
  go_wp2_with fail
  obtain ⟨w14, hw14⟩ : ∃ z, z = (w13.alloc (.cells #[.int .i64 zeroU.g, .int .i64 zeroU.b, .int .i64 zeroU.l, .int .i64 zeroU.p, .int .i64 zeroU.q, .int .i64 zeroU.o] 25)).alloc (.cells #[.int .u8 1] 5) := ⟨_, rfl⟩
  have b14 : Below w13.heap.size w13 w14 := by rw [hw14]; exact ((Below.refl _ _).alloc (Nat.le_refl _) _).alloc (by simp) _
  have hq : w14.heap[w13.heap.size + 1]? = some (.cells #[.int .u8 1] 5 (0, 0)) := by
    rw [hw14]
    have := heap_alloc_new (w13.alloc (.cells #[.int .i64 zeroU.g, .int .i64 zeroU.b, .int .i64 zeroU.l, .int .i64 zeroU.p, .int .i64 zeroU.q, .int .i64 zeroU.o] 25)) (.cells #[.int .u8 1] 5)
    rw [World.size_alloc] at this
    exact this
  rw [← hw14]
  clear hw14
  replace HA := Aside0.mk (HA.out.step b14)
  replace HS := Aside0.mk (HS.out.step b14)
  replace HT := Aside0.mk (HT.out.step b14)
  replace HX := Aside0.mk (HX.out.step b14)
  clear b14
  refine (Disk.Block_any _ 1 [1] (one_row hq) (Nat.le_refl _)).mono ?_
  rintro e w15 ⟨a15, c15, rfl, hc15, hr15, b15⟩
  have HR := Aside0.mk hr15
  clear hq hr15
  replace HA := Aside0.mk (HA.out.step b15)
  replace HS := Aside0.mk (HS.out.step b15)
  replace HT := Aside0.mk (HT.out.step b15)
  replace HX := Aside0.mk (HX.out.step b15)
  clear b15
  go_wp2_with fail
  have hr := Disk.write_uni HA.out.pd 1 (some a15) c15 one256 exC (fun y hy => by have := (Kd.R_reads' (Kd.R_below HR.out hy)).2.2; exact this) (by rw [ex10.2.2.2.2.1]; decide)
  rw [show one256.length = 256 from exL] at hr
  refine hr.mono ?_
  clear hr
  rintro e w16 ⟨rfl, p16, f16⟩
  replace HS := Aside0.mk (show Sup w16 us s7 from keep_super HA.out.pd f16 HS.out)
  replace HT := Aside0.mk (show Sup w16 ut s7 from keep_super HA.out.pd f16 HT.out)
  replace HX := Aside0.mk (show Sup w16 ux s7 from keep_super HA.out.pd f16 HX.out)
  replace HA := Aside0.mk (show AW w w16 db sb D5 from HA.out.disk f16 p16)
  clear p16 f16 HR
  go_wp2_with fail
  have hr := sread_any HA.out.pd (by rw [ex10.2.2.2.2.2.1]; decide)
  rw [ex7] at hr
  refine hr.mono ?_
  clear hr
  rintro e w17 ⟨rfl, p17, f17⟩
  replace HS := Aside0.mk (show Sup w17 us s7 from keep_super HA.out.pd f17 HS.out)
  replace HT := Aside0.mk (show Sup w17 ut s7 from keep_super HA.out.pd f17 HT.out)
  replace HX := Aside0.mk (show Sup w17 ux s7 from keep_super HA.out.pd f17 HX.out)
  have HB := Aside0.mk (HA.out.disk f17 p17).bel
  clear p17 f17 HA
  go_upto_region 13 with (fail)
  obtain ⟨w18, hw18⟩ : ∃ z, z = w17.alloc (.cells #[.int .i64 zeroU.g, .int .i64 zeroU.b, .int .i64 zeroU.l, .int .i64 zeroU.p, .int .i64 zeroU.q, .int .i64 zeroU.o] 25) := ⟨_, rfl⟩
  have b18 : Below w17.heap.size w17 w18 := by rw [hw18]; exact (Below.refl _ _).alloc (Nat.le_refl _) _
  replace HB := Aside0.mk (HB.out.trans (b18.mono HB.out.size))
  replace HS := Aside0.mk (HS.out.step b18)
  replace HT := Aside0.mk (HT.out.step b18)
  replace HX := Aside0.mk (HX.out.step b18)
  rw [← hw18]
  clear hw18 b18
  have hes := eq_self s7
  obtain ⟨⟨a10, a11, a12, a13, a14, a15⟩, _⟩ := cells6 HS.out
  obtain ⟨⟨c10, c11, c12, c13, c14, c15⟩, _⟩ := cells6 HT.out
  obtain ⟨⟨d10, d11, d12, d13, d14, d15⟩, _⟩ := cells6 HX.out
  go_wp2_with fail
  clear a10 a11 a12 a13 a14 a15 c10 c11 c12 c13 c14 c15 d10 d11 d12 d13 d14 d15
  refine (swrite_nil s7).mono ?_
  rintro e w19 ⟨rfl, b19⟩
  replace HB := Aside0.mk (HB.out.trans (b19.mono HB.out.size))
  replace HS := Aside0.mk (HS.out.step b19)
  replace HT := Aside0.mk (HT.out.step b19)
  replace HX := Aside0.mk (HX.out.step b19)
  clear b19
  obtain ⟨⟨a20, a21, a22, a23, a24, a25⟩, _⟩ := cells6 HS.out
  obtain ⟨⟨c20, c21, c22, c23, c24, c25⟩, _⟩ := cells6 HT.out
  obtain ⟨⟨d20, d21, d22, d23, d24, d25⟩, _⟩ := cells6 HX.out
  go_wp2_with fail
  clear a20 a21 a22 a23 a24 a25 c20 c21 c22 c23 c24 c25 d20 d21 d22 d23 d24 d25
  have hck := check_any (w := w19) s7.g s7.b s7.l s7.p s7.q s7.o
  rw [show supOk s7.g s7.b s7.l s7.p s7.q s7.o = true from ex8] at hck
  refine hck.mono ?_
  clear hck
  rintro e w20 ⟨rfl, b20⟩
  replace HB := Aside0.mk (HB.out.trans (b20.mono HB.out.size))
  replace HS := Aside0.mk (HS.out.step b20)
  replace HT := Aside0.mk (HT.out.step b20)
  replace HX := Aside0.mk (HX.out.step b20)
  clear b20
  go_wp2_with fail
  have hck := check_any (w := w20) 0 0 0 0 0 0
  rw [show supOk 0 0 0 0 0 0 = false from ex9] at hck
  refine hck.mono ?_
  clear hck
  rintro e w21 ⟨rfl, b21⟩
  replace HB := Aside0.mk (HB.out.trans (b21.mono HB.out.size))
  replace HS := Aside0.mk (HS.out.step b21)
  replace HT := Aside0.mk (HT.out.step b21)
  replace HX := Aside0.mk (HX.out.step b21)
  clear b21
  go_wp2_with fail
  go_ret
  exact ⟨rfl, HB.out⟩
end Supr
end Go.Proofs.Ytopfjmeejpamjaa
end
section
namespace Go.Proofs.Ytopfjmeejpamjaa
set_option linter.unusedVariables false
set_option linter.unusedSimpArgs false
set_option linter.ambiguousOpen false
open Go.RowKit Go.Proofs.YtopfjmeejpamjaaW.PrintWords Go.Proofs.YtopfjmeejpamjaaW.PrintLast Go.Proofs.YtopfjmeejpamjaaW.PrintMore
namespace Supr
open Go.Num Go.Crc Go.Proofs.Ytopfjmeejpamjaa.Cell Go.Proofs.Ytopfjmeejpamjaa.Sect
theorem putU_len (g b l p q o : Int) : (putU g b l p q o).1.length ≤ 200000 := by
  cases h : supOk g b l p q o with
  | true => rw [put_yes_len h]; decide
  | false => rw [put_no h]; exact Nat.zero_le _
set_option maxHeartbeats 16000000 in
set_option maxRecDepth 100000 in
theorem puts_walk {w : World} (g b l p q o : Int) :
    Calls Try.prog 3 #[.agg #[.int .i64 g, .int .i64 b, .int .i64 l, .int .i64 p, .int .i64 q, .int .i64 o]] w fun r w' => r = .returned (.bool true) ∧ Below w.heap.size w w' := by
  obtain ⟨P, hP⟩ : ∃ P, P = putU g b l p q o := ⟨_, rfl⟩
  obtain ⟨pl, hpl⟩ : ∃ pl, pl = P.1.length := ⟨_, rfl⟩
  have HP := Aside0.mk hP
  have HPL := Aside0.mk hpl
  have HPN := Aside0.mk (show P.1.length ≤ 200000 by rw [hP]; exact putU_len _ _ _ _ _ _)
  cases hok : supOk g b l p q o with
  | true =>
    have HOK := Aside0.mk hok
    have HC := Aside0.mk (show P = (P.1, 0) from Prod.ext rfl (by rw [hP, put_code, if_pos hok]))
    have HG := Aside0.mk (show getU P.1 = (⟨g, b, l, p, q, o⟩, 0) by rw [hP]; exact getU_put ⟨g, b, l, p, q, o⟩ hok)
    clear hok hP hpl
    go_enter Try.func3, Try.ntmps3
    go_wp2_with fail
    obtain ⟨w0, hw0⟩ : ∃ w0, w0 = w.alloc (.cells (sixU g b l p q o) 25) := ⟨_, rfl⟩
    have HS := Aside0.mk (show Sup w0 w.heap.size ⟨g, b, l, p, q, o⟩ by rw [hw0]; exact heap_alloc_new w _)
    have HB := Aside0.mk (show Below w.heap.size w w0 by rw [hw0]; exact (Below.refl _ _).alloc (Nat.le_refl _) _)
    rw [← hw0]
    clear hw0
    have h1 := sput_any (w := w0) g b l p q o
    rw [← HP.out, HC.out, ← HPL.out] at h1
    refine h1.mono ?_
    clear h1
    rintro r w1 ⟨A1, c1, rfl, hc1, hC1, b1⟩
    have HC1 := Aside0.mk hC1
    have HCC := Aside0.mk hc1
    replace HS := Aside0.mk (HS.out.step b1)
    replace HB := Aside0.mk (HB.out.trans (b1.mono HB.out.size))
    clear hC1 b1 hc1
    obtain ⟨⟨a0, a1, a2, a3, a4, a5⟩, _⟩ := cells6 HS.out
    go_wp2_with fail
    clear a0 a1 a2 a3 a4 a5
    have h1 := xsput_any (w := w1) g b l p q o
    rw [← HP.out, HC.out, ← HPL.out] at h1
    refine h1.mono ?_
    clear h1
    rintro r w2 ⟨A2, c2, rfl, _, hC2, b2⟩
    have HC2 := Aside0.mk hC2
    replace HC1 := Aside0.mk (fun x hx => HC1.out x (below_steps b2 hx))
    replace HS := Aside0.mk (HS.out.step b2)
    replace HB := Aside0.mk (HB.out.trans (b2.mono HB.out.size))
    clear hC2 b2
    go_wp2_with fail
    have hg := sget_any (w := w2) A1 c1 P.1 (by rw [← HPL.out]; exact HC1.out _ (Below.refl _ _)) (by rw [HP.out]; exact put_bytes _ _ _ _ _ _) (by rw [← HPL.out]; exact HCC.out) HPN.out
    rw [HG.out, ← HPL.out] at hg
    refine hg.mono ?_
    clear hg
    rintro r w3 ⟨rfl, b3⟩
    replace HC1 := Aside0.mk (fun x hx => HC1.out x (below_steps b3 hx))
    replace HC2 := Aside0.mk (fun x hx => HC2.out x (below_steps b3 hx))
    replace HS := Aside0.mk (HS.out.step b3)
    replace HB := Aside0.mk (HB.out.trans (b3.mono HB.out.size))
    clear b3
    go_upto_region 4 with (fail)
    obtain ⟨w4, hw4⟩ : ∃ w4, w4 = w3.alloc (.cells (sixU g b l p q o) 25) := ⟨_, rfl⟩
    have b4 : Below w3.heap.size w3 w4 := by rw [hw4]; exact (Below.refl _ _).alloc (Nat.le_refl _) _
    have HT := Aside0.mk (show Sup w4 w3.heap.size ⟨g, b, l, p, q, o⟩ by rw [hw4]; exact heap_alloc_new w3 _)
    obtain ⟨ut, hut⟩ : ∃ ut, ut = w3.heap.size := ⟨_, rfl⟩
    rw [← hw4, ← hut]
    rw [← hut] at HT
    replace HC1 := Aside0.mk (HC1.out w4 b4)
    replace HC2 := Aside0.mk (HC2.out w4 b4)
    replace HS := Aside0.mk (HS.out.step b4)
    replace HB := Aside0.mk (HB.out.trans (b4.mono HB.out.size))
    clear hw4 b4 hut
    obtain ⟨T, hT⟩ : ∃ T, T = strOfNums P.1 := ⟨_, rfl⟩
    have hcv1 : (convert 26 9 (.slice A1 pl c1)).run Try.prog w4 = .ok (.string T) w4 := by rw [hT]; exact strC HC1.out
    have hcv2 : (convert 26 9 (.slice A2 pl c2)).run Try.prog w4 = .ok (.string T) w4 := by rw [hT]; exact strC HC2.out
    clear hT
    obtain ⟨⟨a0, a1, a2, a3, a4, a5⟩, _⟩ := cells6 HS.out
    obtain ⟨⟨d0, d1, d2, d3, d4, d5⟩, _⟩ := cells6 HT.out
    have hes := eq_self ⟨g, b, l, p, q, o⟩
    go_wp2_with fail
    clear a0 a1 a2 a3 a4 a5 d0 d1 d2 d3 d4 d5 hcv1 hcv2
    have hck := check_any (w := w4) g b l p q o
    rw [HOK.out] at hck
    refine hck.mono ?_
    clear hck
    rintro r w5 ⟨rfl, b5⟩
    replace HS := Aside0.mk (HS.out.step b5)
    replace HT := Aside0.mk (HT.out.step b5)
    replace HB := Aside0.mk (HB.out.trans (b5.mono HB.out.size))
    clear b5
    obtain ⟨⟨a0, a1, a2, a3, a4, a5⟩, _⟩ := cells6 HS.out
    obtain ⟨⟨d0, d1, d2, d3, d4, d5⟩, _⟩ := cells6 HT.out
    go_wp2_with fail
    refine (awake_any _).mono ?_
    rintro r w6 ⟨rfl, b6⟩
    replace HB := Aside0.mk (HB.out.trans (b6.mono HB.out.size))
    clear b6
    go_wp2_with fail
    go_ret
    exact ⟨rfl, HB.out⟩
  | false =>
    have HOK := Aside0.mk hok
    have HC := Aside0.mk (show P = (P.1, 1) from Prod.ext rfl (by rw [hP, put_code, if_neg (by rw [hok]; decide)]))
    have HG := Aside0.mk (show getU P.1 = (zeroU, 11) by rw [hP, put_no hok]; rfl)
    clear hok hP hpl
    go_enter Try.func3, Try.ntmps3
    go_wp2_with fail
    obtain ⟨w0, hw0⟩ : ∃ w0, w0 = w.alloc (.cells (sixU g b l p q o) 25) := ⟨_, rfl⟩
    have HS := Aside0.mk (show Sup w0 w.heap.size ⟨g, b, l, p, q, o⟩ by rw [hw0]; exact heap_alloc_new w _)
    have HB := Aside0.mk (show Below w.heap.size w w0 by rw [hw0]; exact (Below.refl _ _).alloc (Nat.le_refl _) _)
    rw [← hw0]
    clear hw0
    have h1 := sput_any (w := w0) g b l p q o
    rw [← HP.out, HC.out, ← HPL.out] at h1
    refine h1.mono ?_
    clear h1
    rintro r w1 ⟨A1, c1, rfl, hc1, hC1, b1⟩
    have HC1 := Aside0.mk hC1
    have HCC := Aside0.mk hc1
    replace HS := Aside0.mk (HS.out.step b1)
    replace HB := Aside0.mk (HB.out.trans (b1.mono HB.out.size))
    clear hC1 b1 hc1
    obtain ⟨⟨a0, a1, a2, a3, a4, a5⟩, _⟩ := cells6 HS.out
    go_wp2_with fail
    clear a0 a1 a2 a3 a4 a5
    have h1 := xsput_any (w := w1) g b l p q o
    rw [← HP.out, HC.out, ← HPL.out] at h1
    refine h1.mono ?_
    clear h1
    rintro r w2 ⟨A2, c2, rfl, _, hC2, b2⟩
    have HC2 := Aside0.mk hC2
    replace HC1 := Aside0.mk (fun x hx => HC1.out x (below_steps b2 hx))
    replace HS := Aside0.mk (HS.out.step b2)
    replace HB := Aside0.mk (HB.out.trans (b2.mono HB.out.size))
    clear hC2 b2
    go_wp2_with fail
    have hg := sget_any (w := w2) A1 c1 P.1 (by rw [← HPL.out]; exact HC1.out _ (Below.refl _ _)) (by rw [HP.out]; exact put_bytes _ _ _ _ _ _) (by rw [← HPL.out]; exact HCC.out) HPN.out
    rw [HG.out, ← HPL.out] at hg
    refine hg.mono ?_
    clear hg
    rintro r w3 ⟨rfl, b3⟩
    replace HC1 := Aside0.mk (fun x hx => HC1.out x (below_steps b3 hx))
    replace HC2 := Aside0.mk (fun x hx => HC2.out x (below_steps b3 hx))
    replace HS := Aside0.mk (HS.out.step b3)
    replace HB := Aside0.mk (HB.out.trans (b3.mono HB.out.size))
    clear b3
    go_upto_region 4 with (fail)
    obtain ⟨w4, hw4⟩ : ∃ w4, w4 = w3.alloc (.cells #[.int .i64 zeroU.g, .int .i64 zeroU.b, .int .i64 zeroU.l, .int .i64 zeroU.p, .int .i64 zeroU.q, .int .i64 zeroU.o] 25) := ⟨_, rfl⟩
    have b4 : Below w3.heap.size w3 w4 := by rw [hw4]; exact (Below.refl _ _).alloc (Nat.le_refl _) _
    have HT := Aside0.mk (show Sup w4 w3.heap.size zeroU by rw [hw4]; exact heap_alloc_new w3 _)
    obtain ⟨ut, hut⟩ : ∃ ut, ut = w3.heap.size := ⟨_, rfl⟩
    rw [← hw4, ← hut]
    rw [← hut] at HT
    replace HC1 := Aside0.mk (HC1.out w4 b4)
    replace HC2 := Aside0.mk (HC2.out w4 b4)
    replace HS := Aside0.mk (HS.out.step b4)
    replace HB := Aside0.mk (HB.out.trans (b4.mono HB.out.size))
    clear hw4 b4 hut
    obtain ⟨T, hT⟩ : ∃ T, T = strOfNums P.1 := ⟨_, rfl⟩
    have hcv1 : (convert 26 9 (.slice A1 pl c1)).run Try.prog w4 = .ok (.string T) w4 := by rw [hT]; exact strC HC1.out
    have hcv2 : (convert 26 9 (.slice A2 pl c2)).run Try.prog w4 = .ok (.string T) w4 := by rw [hT]; exact strC HC2.out
    clear hT
    obtain ⟨⟨a0, a1, a2, a3, a4, a5⟩, _⟩ := cells6 HS.out
    obtain ⟨⟨d0, d1, d2, d3, d4, d5⟩, _⟩ := cells6 HT.out
    have hes := eq_self ⟨g, b, l, p, q, o⟩
    go_wp2_with fail
    clear a0 a1 a2 a3 a4 a5 d0 d1 d2 d3 d4 d5 hcv1 hcv2
    have hck := check_any (w := w4) g b l p q o
    rw [HOK.out] at hck
    refine hck.mono ?_
    clear hck
    rintro r w5 ⟨rfl, b5⟩
    replace HS := Aside0.mk (HS.out.step b5)
    replace HT := Aside0.mk (HT.out.step b5)
    replace HB := Aside0.mk (HB.out.trans (b5.mono HB.out.size))
    clear b5
    obtain ⟨⟨a0, a1, a2, a3, a4, a5⟩, _⟩ := cells6 HS.out
    obtain ⟨⟨d0, d1, d2, d3, d4, d5⟩, _⟩ := cells6 HT.out
    go_wp2_with fail
    refine (awake_any _).mono ?_
    rintro r w6 ⟨rfl, b6⟩
    replace HB := Aside0.mk (HB.out.trans (b6.mono HB.out.size))
    clear b6
    go_wp2_with fail
    go_ret
    exact ⟨rfl, HB.out⟩
end Supr
end Go.Proofs.Ytopfjmeejpamjaa
end
section
namespace Go.Proofs.Ytopfjmeejpamjaa
set_option linter.unusedVariables false
set_option linter.unusedSimpArgs false
open Go.RowKit Go.Proofs.YtopfjmeejpamjaaW.PrintWords
namespace Op
open Go.ChangeShapes Go.WideShapes
theorem cells_int1 : Try.prog.cellsOf 3 = 1 := by kernel_rfl
theorem trod_st4 {H : Type} {enc : TypeId × Value → H} {P : Program} {w : World} {base : Nat} {spare : Nat → Bool} {held : Bool} {t : TypeId} {f0 f1 f2 f3 : Field} {fuel : Nat} {cs : List Value} {x : DataW H × List MemPlace} (ht : P.underlying t = some (.struct #[f0, f1, f2, f3])) (h : DataW.trod enc P w base spare held fuel t cs = some x) :
    ∃ (y0 y1 y2 y3 : DataW H × List MemPlace) (n : Nat), cs.length = P.cellsOf t ∧ DataW.trod enc P w base spare held n f0.type ((cs.drop f0.offset).take (P.cellsOf f0.type)) = some y0 ∧ DataW.trod enc P w base spare held n f1.type ((cs.drop f1.offset).take (P.cellsOf f1.type)) = some y1 ∧ DataW.trod enc P w base spare held n f2.type ((cs.drop f2.offset).take (P.cellsOf f2.type)) = some y2 ∧ DataW.trod enc P w base spare held n f3.type ((cs.drop f3.offset).take (P.cellsOf f3.type)) = some y3 := by
  obtain ⟨xs, n, _, rfl, hl, hlen, hf⟩ := DataW.trod_struct ht h
  match xs, hlen with
  | [y0, y1, y2, y3], _ => exact ⟨y0, y1, y2, y3, n, hl, by simpa using hf 0 f0 rfl, by simpa using hf 1 f1 rfl, by simpa using hf 2 f2 rfl, by simpa using hf 3 f3 rfl⟩
end Op
end Go.Proofs.Ytopfjmeejpamjaa
end
section
namespace Go.Proofs.Ytopfjmeejpamjaa
set_option linter.unusedVariables false
set_option linter.unusedSimpArgs false
open Go.RowKit Go.Proofs.YtopfjmeejpamjaaW.PrintWords
namespace Op
open Go.ChangeShapes Go.WideShapes
set_option maxRecDepth 100000 in
theorem struct_part : ∃ f0 f1 f2 : Field, Try.prog.underlying 23 = some (.struct #[f0, f1, f2]) ∧ (f0.offset = 0 ∧ f1.offset = 1 ∧ f2.offset = 2) ∧ (f0.type = 3 ∧ f1.type = 3 ∧ f2.type = 3) := by
  have h : (Try.prog.underlying 23).map (fun d => match d with | .struct fs => (fs.toList.map fun f => (f.offset, f.type)) | _ => []) = some [(0, 3), (1, 3), (2, 3)] := by kernel_rfl
  cases hq : Try.prog.underlying 23 with
  | none => rw [hq] at h; simp at h
  | some d =>
    rw [hq] at h
    cases d with
    | struct fs =>
      obtain ⟨l⟩ := fs
      have h2 : l.map (fun f => (f.offset, f.type)) = [(0, 3), (1, 3), (2, 3)] := by simpa using h
      have hlen : l.length = 3 := by have := congrArg List.length h2; simpa using this
      match l, h2, hlen with
      | [f0, f1, f2], h2, _ =>
        simp only [List.map_cons, List.map_nil, List.cons.injEq, Prod.mk.injEq, and_true] at h2
        obtain ⟨⟨o0, t0⟩, ⟨o1, t1⟩, ⟨o2, t2⟩⟩ := h2
        exact ⟨f0, f1, f2, rfl, ⟨o0, o1, o2⟩, ⟨t0, t1, t2⟩⟩
    | _ => exact absurd (show ([] : List (Nat × TypeId)) = _ from Option.some.inj h) (by simp)
set_option maxRecDepth 100000 in
theorem struct_super : ∃ f0 f1 f2 f3 : Field, Try.prog.underlying 25 = some (.struct #[f0, f1, f2, f3]) ∧ (f0.offset = 0 ∧ f1.offset = 1 ∧ f2.offset = 2 ∧ f3.offset = 3) ∧ (f0.type = 3 ∧ f1.type = 3 ∧ f2.type = 3 ∧ f3.type = 23) := by
  have h : (Try.prog.underlying 25).map (fun d => match d with | .struct fs => (fs.toList.map fun f => (f.offset, f.type)) | _ => []) = some [(0, 3), (1, 3), (2, 3), (3, 23)] := by kernel_rfl
  cases hq : Try.prog.underlying 25 with
  | none => rw [hq] at h; simp at h
  | some d =>
    rw [hq] at h
    cases d with
    | struct fs =>
      obtain ⟨l⟩ := fs
      have h2 : l.map (fun f => (f.offset, f.type)) = [(0, 3), (1, 3), (2, 3), (3, 23)] := by simpa using h
      have hlen : l.length = 4 := by have := congrArg List.length h2; simpa using this
      match l, h2, hlen with
      | [f0, f1, f2, f3], h2, _ =>
        simp only [List.map_cons, List.map_nil, List.cons.injEq, Prod.mk.injEq, and_true] at h2
        obtain ⟨⟨o0, t0⟩, ⟨o1, t1⟩, ⟨o2, t2⟩, ⟨o3, t3⟩⟩ := h2
        exact ⟨f0, f1, f2, f3, rfl, ⟨o0, o1, o2, o3⟩, ⟨t0, t1, t2, t3⟩⟩
    | _ => exact absurd (show ([] : List (Nat × TypeId)) = _ from Option.some.inj h) (by simp)
theorem cells_part : Try.prog.cellsOf 23 = 3 := by kernel_rfl
theorem cells_super : Try.prog.cellsOf 25 = 6 := by kernel_rfl
theorem trod_st3 {H : Type} {enc : TypeId × Value → H} {P : Program} {w : World} {base : Nat} {spare : Nat → Bool} {held : Bool} {t : TypeId} {f0 f1 f2 : Field} {fuel : Nat} {cs : List Value} {x : DataW H × List MemPlace} (ht : P.underlying t = some (.struct #[f0, f1, f2])) (h : DataW.trod enc P w base spare held fuel t cs = some x) :
    ∃ (y0 y1 y2 : DataW H × List MemPlace) (n : Nat), cs.length = P.cellsOf t ∧ DataW.trod enc P w base spare held n f0.type ((cs.drop f0.offset).take (P.cellsOf f0.type)) = some y0 ∧ DataW.trod enc P w base spare held n f1.type ((cs.drop f1.offset).take (P.cellsOf f1.type)) = some y1 ∧ DataW.trod enc P w base spare held n f2.type ((cs.drop f2.offset).take (P.cellsOf f2.type)) = some y2 := by
  obtain ⟨xs, n, _, rfl, hl, hlen, hf⟩ := DataW.trod_struct ht h
  match xs, hlen with
  | [y0, y1, y2], _ => exact ⟨y0, y1, y2, n, hl, by simpa using hf 0 f0 rfl, by simpa using hf 1 f1 rfl, by simpa using hf 2 f2 rfl⟩
set_option maxRecDepth 100000 in
theorem open_part3 {H : Type} {enc : TypeId × Value → H} {w : World} {base : Nat} {spare : Nat → Bool} {held : Bool} {fuel : Nat} {u0 u1 u2 : Value} {y : DataW H × List MemPlace} (h : DataW.trod enc Try.prog w base spare held fuel 23 [u0, u1, u2] = some y) :
    ∃ x0 x1 x2 : Int, u0 = .int .i64 x0 ∧ u1 = .int .i64 x1 ∧ u2 = .int .i64 x2 ∧ inI64 x0 ∧ inI64 x1 ∧ inI64 x2 := by
  obtain ⟨f0, f1, f2, hs, ⟨o0, o1, o2⟩, t0, t1, t2⟩ := struct_part
  obtain ⟨y0, y1, y2, n, hl, g0, g1, g2⟩ := trod_st3 hs h
  rw [o0, t0, cells_int1] at g0
  rw [o1, t1, cells_int1] at g1
  rw [o2, t2, cells_int1] at g2
  simp [Value.cells] at g0 g1 g2
  obtain ⟨x0, k0, i0⟩ := open_i64 (w := w) Try.underlying3 g0
  obtain ⟨x1, k1, i1⟩ := open_i64 (w := w) Try.underlying3 g1
  obtain ⟨x2, k2, i2⟩ := open_i64 (w := w) Try.underlying3 g2
  exact ⟨x0, x1, x2, by have := k0; simpa [Kd.int, Kd.scalar] using this, by have := k1; simpa [Kd.int, Kd.scalar] using this, by have := k2; simpa [Kd.int, Kd.scalar] using this, i0, i1, i2⟩
set_option maxRecDepth 100000 in
open Go.Lib in
theorem open_super {H : Type} {enc : TypeId × Value → H} {w : World} {base : Nat} {spare : Nat → Bool} {held : Bool} {r : Reach} {b0 : Nat} {v : Value} {d : DataW H} {p : List MemPlace} (hv : Value.okWide Try.prog w r b0 25 v) (h : DataW.Trod enc Try.prog w base spare held 25 v d p) :
    ∃ (x0 x1 x2 x3 x4 x5 : Int), v = .agg #[.int .i64 x0, .int .i64 x1, .int .i64 x2, .int .i64 x3, .int .i64 x4, .int .i64 x5] ∧ inI64 x0 ∧ inI64 x1 ∧ inI64 x2 ∧ inI64 x3 ∧ inI64 x4 ∧ inI64 x5 := by
  obtain ⟨f0, f1, f2, f3, hs, ⟨o0, o1, o2, o3⟩, t0, t1, t2, t3⟩ := struct_super
  obtain ⟨cs, rfl, hsz⟩ := okWide_struct hs hv
  rw [cells_super] at hsz
  obtain ⟨u0, u1, u2, u3, u4, u5, rfl⟩ : ∃ c0 c1 c2 c3 c4 c5, cs = #[c0, c1, c2, c3, c4, c5] := by
    obtain ⟨l⟩ := cs
    match l, hsz with
    | [c0, c1, c2, c3, c4, c5], _ => exact ⟨c0, c1, c2, c3, c4, c5, rfl⟩
  obtain ⟨fuel, hf⟩ := h
  obtain ⟨y0, y1, y2, y3, n, hl, g0, g1, g2, g3⟩ := trod_st4 hs hf
  rw [o0, t0, cells_int1] at g0
  rw [o1, t1, cells_int1] at g1
  rw [o2, t2, cells_int1] at g2
  rw [o3, t3, cells_part] at g3
  simp [Value.cells] at g0 g1 g2 g3
  obtain ⟨x0, k0, i0⟩ := open_i64 (w := w) Try.underlying3 g0
  obtain ⟨x1, k1, i1⟩ := open_i64 (w := w) Try.underlying3 g1
  obtain ⟨x2, k2, i2⟩ := open_i64 (w := w) Try.underlying3 g2
  obtain ⟨x3, x4, x5, e3, e4, e5, i3, i4, i5⟩ := open_part3 g3
  have e0 : u0 = .int .i64 x0 := by have := k0; simpa [Kd.int, Kd.scalar] using this
  have e1 : u1 = .int .i64 x1 := by have := k1; simpa [Kd.int, Kd.scalar] using this
  have e2 : u2 = .int .i64 x2 := by have := k2; simpa [Kd.int, Kd.scalar] using this
  subst e0 e1 e2 e3 e4 e5
  exact ⟨x0, x1, x2, x3, x4, x5, rfl, i0, i1, i2, i3, i4, i5⟩
end Op
end Go.Proofs.Ytopfjmeejpamjaa
end
