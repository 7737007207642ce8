/- Sets of bits: contracts, eleventh part. -/
import Derived.Test.YtbcifbogmjfpoaaBt
import Derived.Test.YtbcifbogmjfpoaaPBitsClonesx
import Derived.Test.YtbcifbogmjfpoaaPBitsDoesx
import Derived.Below
import Derived.Test.YtbcifbogmjfpoaaReg
import Derived.Deep.MidRow
import Derived.Deep.WholeRow
import Derived.Great.BuildSlice
import Derived.Lib.Hide
import Derived.OwnWalk
import Derived.WalkKit
import Derived.KernelRfl
import Derived.RowKit3
import Derived.Deep.LoopGhost
import Derived.Deep.QuietTactic
import Derived.BigQuiet
import Derived.WideLaws
import Derived.Outline
import Derived.Deep.DeepCutAuto
import Derived.Deep.CutBlock
import Derived.WalkSpells
import Derived.RegionTactic
import Derived.BigRegion
import Derived.WalkLawsBesides
namespace Go.Proofs.Ytbcifbogmjfpoaa
set_option linter.unusedVariables false
set_option linter.unusedSimpArgs false
open Go.RowKit Go.Proofs.YtbcifbogmjfpoaaW.PrintWords Go.Proofs.YtbcifbogmjfpoaaW.PrintLast Go.Proofs.YtbcifbogmjfpoaaW.PrintMore
namespace Bits
open Go.Bits
open PBitsDoes
open PBitsClones (S42 k42 at_T42 rd_T42 chantrylaw05_l2.f chantrylaw05_l2.calls)
theorem two_start2 {w w1 w2 : World} {sb : Nat} {v : Value} {l : List Bool} (hsb : sb = w.heap.size) (ha : At w1 sb l) (hb : Below w.heap.size w w1) (hr : Row w2 w1.heap.size v l) (hb2 : Below w1.heap.size w1 w2) (hl : l.length ≤ 4096) :
    Two w (w2.alloc (.cells #[v] 38)) sb w2.heap.size v l := by
  have hs2 := ha.lt
  have hb2s := hb2.size
  have hbw : Below w.heap.size w w2 := hb.trans (hb2.mono hb.size)
  exact ⟨At.below (At.below ha hb2) (Below.alloc (Below.refl _ _) (Nat.le_refl _) _), heap_alloc_new w2 _, Kd.R_alloc (Kd.R_lower hr hb.size) _, hbw.alloc hbw.size _, by omega, hbw.size, by omega, hl⟩
theorem Two.mid2 {w0 w w1 w2 : World} {sb xb : Nat} {v : Value} {l l' : List Bool} (h : Two w0 w sb xb v l) (ha : At w1 sb l') (hg : w.grownBy w1 (some sb)) (hk : Kept w1.drew w2 (fun k => some k = v.ownBlock)) : w2.heap[xb]? = some (.cells #[v] 38 (0, 0)) := by
  obtain ⟨p1, p2, p3, p4⟩ := h.prog ha hg
  exact (hk.2 xb (Array.getElem?_eq_some_iff.1 p2).1 h.xown).trans p2
theorem list_nil (w : World) : Calls Try.prog 37 #[.pointer none] w fun e w' => e = .returned (.slice none 0 0) ∧ w = w' := by
  go_enter Try.func37, Try.ntmps37
  go_wp2_with fail
  refine (next_nil 0 _).mono ?_
  rintro e w' ⟨rfl, rfl⟩
  go_wp2_with fail
  go_loopg [3, 4] 0 (fun g v3 v4 wr => v3 = .slice none 0 0 ∧ v4 = .int .i64 (-1) ∧ wr = w)
  case atStart => exact ⟨rfl, rfl, rfl⟩
  case round =>
    obtain ⟨rfl, rfl, rfl⟩ := hrel
    go_wp2_with fail
    go_ret
    exact ⟨rfl, rfl⟩
theorem l2_any (A : Option Addr) (c : Nat) (ys : List S42) (i : Int) (w : World) (hi : 0 ≤ i) (hr : Kd.C k42 w A ys.length ys) (hc : ys.length ≤ c) :
    Calls Try.prog 39 #[.slice A ys.length c, .int .i64 i] w fun e w' => ∃ r, e = .returned (.int .i64 r) ∧ Below w.heap.size w w' := by
  obtain ⟨r, hr'⟩ : ∃ r, chantrylaw05_l2.f ys i = some r := by
    unfold chantrylaw05_l2.f
    by_cases h1 : i < (ys.length : Int)
    · exact ⟨_, by rw [if_pos h1, if_pos hi]⟩
    · exact ⟨_, by rw [if_neg h1]⟩
  refine (chantrylaw05_l2.calls A c ys i r w hr hc hr').mono ?_
  rintro e w' ⟨rfl, ⟨nd, rfl⟩⟩
  exact ⟨r, rfl, pw_below_drewN (Below.refl _ _) nd⟩
/-- Another set was changed. -/
theorem Two.beside {w0 w w' : World} {sb tb xb : Nat} {v : Value} {l k : List Bool} (h : Two w0 w tb xb v l) (ha : At w sb k) (hg : w.grownBy w' (some sb)) (hb : w0.heap.size ≤ sb) (h1 : tb ≠ sb) (h2 : xb ≠ sb) : Two w0 w' tb xb v l := by
  have hs : some sb ≠ v.ownBlock := by
    obtain ⟨ws, hb, _⟩ := ha
    exact Kd.R_ne h.row hb (by decide)
  exact ⟨h.at_.other hg h1, (hg.block xb h.xlt (by simpa using h2)).trans h.var, Kd.R_grown1 h.row rfl hg hs, mine h.bel ha hb hg, h.sbase, h.xbase, h.ne, h.len⟩
set_option maxHeartbeats 8000000 in
set_option maxRecDepth 100000 in
theorem clones_main (n : Nat) (A A2 : Option Addr) (c c2 : Nat) (ys zs : List S42) (w : World) (hn : n ≤ 4096) (hx : ys.length ≤ 40) (hz : zs.length ≤ 40) (hr : Kd.C k42 w A ys.length ys) (hc : ys.length ≤ c) (hr2 : Kd.C k42 w A2 zs.length zs) (hc2 : zs.length ≤ c2) :
    Calls Try.prog 8 #[.int .i64 n, .slice A ys.length c, .slice A2 zs.length c2] w fun e w' => e = .returned (.bool true) ∧ Below w.heap.size w w' := by
  have HYS := Lib.hid hr
  have HZS := Lib.hid hr2
  clear hr hr2
  go_enter Try.func8, Try.ntmps8
  go_wp2_with fail
  refine (of_at n _ hn).mono ?_
  rintro e w1 ⟨rfl, a1, b1⟩
  obtain ⟨sb, hsb⟩ : ∃ sb, sb = w.heap.size := ⟨_, rfl⟩
  rw [← hsb] at a1 ⊢
  have HA := Lib.hid a1
  have HB := Lib.hid b1
  have HSE := Lib.hid hsb
  clear a1 b1 hsb
  go_wp2_with fail
  refine (refof_yes n _ hn).mono ?_
  rintro e w2 ⟨v, rfl, hr, b2⟩
  have HTW := Aside0.mk (two_start2 HSE.out HA.out HB.out hr b2 (by simpa using hn))
  obtain ⟨AX0, cX0, rfl⟩ := Kd.R_slice hr
  clear hr b2 HA HB HSE
  go_wp2_with fail
  go_loopg [11] ys.length (fun g v11 wr => ∃ (i : Nat) (l : List Bool) (AX : Option Addr) (cX : Nat), Aside0 (i + g = ys.length) ∧ v11 = .int .i64 i ∧ Aside0 (Two w wr sb w2.heap.size (.slice AX l.length cX) l))
  case atStart => exact ⟨0, List.replicate n false, AX0, cX0, ⟨by omega⟩, rfl, by simpa only [List.length_replicate] using HTW⟩
  case round =>
    clear HTW
    obtain ⟨i, l, AX, cX, HI, rfl, HTW⟩ := hrel
    by_cases hi : i < ys.length
    · obtain ⟨ad, hadA, hc0, hc1⟩ := at_T42 HYS.out i (by omega) (by omega)
      cases hadA
      obtain ⟨K, hK⟩ : ∃ y, y = (rd_T42 ys i).f0 := ⟨_, rfl⟩
      obtain ⟨y, hy⟩ : ∃ y, y = (rd_T42 ys i).f1 := ⟨_, rfl⟩
      rw [← hK, Int.toNat_natCast] at hc0
      rw [← hy, Int.toNat_natCast] at hc1
      have hd0 := (HTW.out.bel.cell (World.block_lt_of_cell? w _ hc0)).trans hc0
      have hd1 := (HTW.out.bel.cell (World.block_lt_of_cell? w _ hc1)).trans hc1
      have HC1 := Lib.hid hc1
      clear hc0 hc1 hK hy
      by_cases hk1 : K = 1
      · subst hk1
        go_wp2_with (go_at_call 25; refine (add_any sb l y _ HTW.out.at_).mono ?_; rintro e w3 ⟨rfl, a, g⟩)
        have HA3 := Lib.hid a
        have HG3 := Lib.hid g
        clear a g
        have HX3 := Lib.hid (HTW.out.prog HA3.out HG3.out)
        have HC3 := Lib.hid ((HX3.out.2.2.2.cell (World.block_lt_of_cell? w _ HC1.out)).trans HC1.out)
        refine Go.Reg.region (fun x => x = w3.drew) [.s, .s, .s, .s, .s, .s, .x, .p, .p, .p, .x] (by kernel_rfl) (by kernel_rfl) rfl (fun ne => ?_)
        have hx0 : ∀ m : Go.Reg.In (fun x => x = w3.drew), m.w.cell? ⟨w2.heap.size, 0, none⟩ = some (.slice AX l.length cX) := fun m => by rw [m.h]; exact cell_blk (w := w3) HX3.out.2.1
        have hx1 : ∀ m : Go.Reg.In (fun x => x = w3.drew), m.w.cell? ⟨(ad.add (i * 2)).block, (ad.add (i * 2)).off + 1, none⟩ = some (.int .i64 y) := fun m => by rw [m.h]; exact HC3.out
        refine Go.Reg.lex_q 6 _ _ _ _ (by rfl) ?_; simp only [List.take_succ_cons, List.take_zero, List.drop_succ_cons, List.drop_zero]; (repeat (go_big_quiet_step (rfl))); refine wpQuiet_nil ?_
        refine Go.Reg.step_x (by rfl) (fun K hK => ?_)
        go_wp2_with fail
        refine (refadd (w0 := w) (w := w3.drew) y HX3.out.2.2.2.drew (Kd.R_drew HX3.out.2.2.1) HTW.out.len).mono ?_
        rintro e w4 ⟨v', rfl, hr, hb, hk⟩
        have HTN := Aside0.mk (HTW.out.next HA3.out HG3.out (by rw [addL_len]; exact HTW.out.len) hr hb hk)
        obtain ⟨AN, cN, rfl⟩ := Kd.R_slice hr
        have hxm := HTW.out.mid2 HA3.out HG3.out hk
        have hxc : w4.cell? ⟨w2.heap.size, 0, none⟩ = some (.slice AX l.length cX) := cell_blk hxm
        have hxf : w4.frozen? ⟨w2.heap.size, 0, none⟩ = false := frozen_blk hxm
        clear hr hb hk hxm
        go_wp2_with fail
        refine hK.out _ _ ?_
        clear hK K
        refine Go.Reg.lex_qp 3 _ _ _ _ _ (by rfl) ?_; simp only [List.take_succ_cons, List.take_zero, List.drop_succ_cons, List.drop_zero]; (repeat (go_big_quiet_step (rfl))); refine wpQuiet_nil ?_
        refine Go.Reg.step_x (by rfl) (fun K hK => ?_)
        go_wp2_with fail
        refine hK.out _ _ ?_
        clear hK K
        refine Go.Reg.lex_nil ?_
        go_wp2_with fail
        go_roundg (gk - 1)
        case measure => have := HI.out; omega
        case rel => exact ⟨i + 1, (addL l y).1, AN, cN, ⟨by have := HI.out; omega⟩, by go_num, HTN⟩
      · go_wp2_with fail
        go_roundg (gk - 1)
        case measure => have := HI.out; omega
        case rel => exact ⟨i + 1, l, AX, cX, ⟨by have := HI.out; omega⟩, by go_num, HTW⟩
    · obtain ⟨L, hL⟩ : ∃ L, L = l := ⟨_, rfl⟩
      go_wp2_with fail
      refine (clone_any sb l _ HTW.out.at_).mono ?_
      rintro e w3 ⟨rfl, at3, b3⟩
      obtain ⟨tb, htb⟩ : ∃ tb, tb = wr.heap.size := ⟨_, rfl⟩
      rw [← htb] at at3 ⊢
      have hT := HTW.out.below b3
      have HTT : Aside0 (Two w w3 tb w2.heap.size (.slice AX L.length cX) L) := ⟨by rw [hL]; exact ⟨at3, hT.var, hT.row, hT.bel, by rw [htb]; exact HTW.out.bel.size, hT.xbase, by have := HTW.out.xlt; omega, hT.len⟩⟩
      have HAS := Aside0.mk hT.at_
      have HNE1 := Aside0.mk (show tb ≠ sb by have := HTW.out.at_.lt; omega)
      have HNE2 := Aside0.mk HTW.out.ne.symm
      have HSB := Aside0.mk HTW.out.sbase
      rw [← hL] at HAS
      clear at3 b3 hT HTW htb hL HI
      go_wp2_with fail
      go_loopg [13] zs.length (fun g v13 wr => ∃ (i : Nat) (k : List Bool), Aside0 (i + g = zs.length) ∧ v13 = .int .i64 i ∧ Aside0 (At wr sb k) ∧ Aside0 (Two w wr tb w2.heap.size (.slice AX L.length cX) L))
      case atStart => exact ⟨0, _, ⟨by omega⟩, rfl, HAS, HTT⟩
      case round =>
        clear HTT HAS
        obtain ⟨i, k, HI, rfl, HAS, HTN⟩ := hrel
        by_cases hi2 : i < zs.length
        · obtain ⟨ad2, hadA2, hc0, hc1⟩ := at_T42 HZS.out i (by omega) (by omega)
          cases hadA2
          obtain ⟨y, hy⟩ : ∃ y, y = (rd_T42 zs i).f1 := ⟨_, rfl⟩
          rw [← hy, Int.toNat_natCast] at hc1
          have hd1 := (HTN.out.bel.cell (World.block_lt_of_cell? w _ hc1)).trans hc1
          clear hc0 hc1 hy
          go_wp2_with (go_at_call 25; refine (add_any sb k y _ HAS.out).mono ?_; rintro e w4 ⟨rfl, a, g⟩)
          replace HTN := Aside0.mk (HTN.out.beside HAS.out g HSB.out HNE1.out HNE2.out)
          replace HAS := Aside0.mk a
          clear a g hd1
          refine (l2_any A c ys i _ (by omega) (Kd.C_below HYS.out HTN.out.bel) hc).mono ?_
          rintro e w5 ⟨r, rfl, b⟩
          replace HTN := Aside0.mk (HTN.out.below b)
          replace HAS := Aside0.mk (HAS.out.below b)
          clear b
          go_wp2_with fail
          refine (drop_any sb _ r _ HAS.out).mono ?_
          rintro e w6 ⟨rfl, a, g⟩
          replace HTN := Aside0.mk (HTN.out.beside HAS.out g HSB.out HNE1.out HNE2.out)
          replace HAS := Aside0.mk a
          clear a g
          go_wp2_with fail
          go_roundg (gk - 1)
          case measure => have := HI.out; omega
          case rel => exact ⟨i + 1, _, ⟨by have := HI.out; omega⟩, by go_num, HAS, HTN⟩
        · obtain ⟨w6, hw6⟩ : ∃ w6, w6 = wr := ⟨_, rfl⟩
          go_wp2_with fail
          rw [← hw6] at HTN ⊢
          clear hw6 HAS
          refine Go.Reg.region (Below w6.heap.size w6.drew) [.s, .s, .s, .s, .w, .s, .w, .w, .s, .s, .s, .w, .s, .s, .s, .s, .w, .s, .s, .s, .s, .w, .s, .s, .s, .s, .w, .s, .s, .s, .s, .w, .s, .s, .s, .s, .w, .s, .s, .s, .s, .w, .s, .s, .s, .s, .s, .w, .s, .s, .s, .w, .s, .s] (by kernel_rfl) (by kernel_rfl) (Below.refl _ _) (fun ne => ?_)
          replace HTN := Aside0.mk (HTN.out.below (below_drew1 (Below.refl w6.heap.size w6)))
          have hx5 : ∀ m : Go.Reg.In (Below w6.heap.size w6.drew), m.w.cell? ⟨w2.heap.size, 0, none⟩ = some (.slice AX L.length cX) := fun m => cell_blk (HTN.out.below m.h).var
          have HBW := Aside0.mk (Below.refl w6.heap.size w6.drew)
          refine Go.Reg.lex_q 4 _ _ _ _ (by rfl) ?_; simp only [List.take_succ_cons, List.take_zero, List.drop_succ_cons, List.drop_zero]; (repeat (go_big_quiet_step (rfl))); refine wpQuiet_nil ?_
          refine Go.Reg.step_w (fun K hK => ?_)
          go_wp2_with fail
          refine (list_any tb L _ HTN.out.at_ HTN.out.len).mono ?_
          rintro e w7 ⟨u, rfl, hru, b⟩
          replace HBW := Aside0.mk (HBW.out.trans (b.mono HBW.out.size))
          replace HTN := Aside0.mk (HTN.out.below b)
          obtain ⟨AU, cU, rfl, hcU, hCU⟩ := Kd.R_reads hru
          have HCU := Aside0.mk hCU
          clear hru b hCU
          go_wp2_with fail
          refine hK.out _ _ HBW.out ?_
          clear hK K
          refine Go.Reg.lex_q 1 _ _ _ _ (by rfl) ?_; simp only [List.take_succ_cons, List.take_zero, List.drop_succ_cons, List.drop_zero]; (repeat (go_big_quiet_step (rfl))); refine wpQuiet_nil ?_
          refine Go.Reg.step_w (fun K hK => ?_)
          go_wp2_with fail
          refine (reflist HTN.out.row HTN.out.len).mono ?_
          rintro e w8 ⟨u8, rfl, hr8, b⟩
          replace HBW := Aside0.mk (HBW.out.trans (b.mono HBW.out.size))
          replace HTN := Aside0.mk (HTN.out.below b)
          replace HCU := Aside0.mk (Kd.C_below HCU.out b)
          obtain ⟨A8, c8, rfl, hc8, hC8⟩ := Kd.R_reads hr8
          have HC8 := Aside0.mk hC8
          clear hr8 b hC8
          go_wp2_with fail
          refine hK.out _ _ HBW.out ?_
          clear hK K
          refine Go.Reg.step_w (fun K hK => ?_)
          go_wp2_with fail
          refine (ints_eq _ _ _ _ _ _ (listL L) _ rfl rfl (listL_len L HTN.out.len) HCU.out hcU HC8.out hc8).mono ?_
          rintro e w9 ⟨rfl, ⟨nd, rfl⟩⟩
          replace HBW := Aside0.mk (pw_below_drewN HBW.out nd)
          replace HTN := Aside0.mk (HTN.out.below (pw_below_drewN (Below.refl _ _) nd))
          go_wp2_with fail
          refine hK.out _ _ HBW.out ?_
          clear hK K
          refine Go.Reg.lex_q 3 _ _ _ _ (by rfl) ?_; simp only [List.take_succ_cons, List.take_zero, List.drop_succ_cons, List.drop_zero]; (repeat (go_big_quiet_step (rfl))); refine wpQuiet_nil ?_
          refine Go.Reg.step_w (fun K hK => ?_)
          go_wp2_with fail
          refine (add_nil 1 _).mono ?_
          rintro e w' ⟨rfl, rfl⟩
          go_wp2_with fail
          refine hK.out _ _ HBW.out ?_
          clear hK K
          refine Go.Reg.lex_q 4 _ _ _ _ (by rfl) ?_; simp only [List.take_succ_cons, List.take_zero, List.drop_succ_cons, List.drop_zero]; (repeat (go_big_quiet_step (rfl))); refine wpQuiet_nil ?_
          refine Go.Reg.step_w (fun K hK => ?_)
          go_wp2_with fail
          refine (drop_nil 1 _).mono ?_
          rintro e w' ⟨rfl, rfl⟩
          go_wp2_with fail
          refine hK.out _ _ HBW.out ?_
          clear hK K
          refine Go.Reg.lex_q 4 _ _ _ _ (by rfl) ?_; simp only [List.take_succ_cons, List.take_zero, List.drop_succ_cons, List.drop_zero]; (repeat (go_big_quiet_step (rfl))); refine wpQuiet_nil ?_
          refine Go.Reg.step_w (fun K hK => ?_)
          go_wp2_with fail
          refine (has_nil 0 _).mono ?_
          rintro e w' ⟨rfl, rfl⟩
          go_wp2_with fail
          refine hK.out _ _ HBW.out ?_
          clear hK K
          refine Go.Reg.lex_q 4 _ _ _ _ (by rfl) ?_; simp only [List.take_succ_cons, List.take_zero, List.drop_succ_cons, List.drop_zero]; (repeat (go_big_quiet_step (rfl))); refine wpQuiet_nil ?_
          refine Go.Reg.step_w (fun K hK => ?_)
          go_wp2_with fail
          refine (count_nil _).mono ?_
          rintro e w' ⟨rfl, rfl⟩
          go_wp2_with fail
          refine hK.out _ _ HBW.out ?_
          clear hK K
          refine Go.Reg.lex_q 4 _ _ _ _ (by rfl) ?_; simp only [List.take_succ_cons, List.take_zero, List.drop_succ_cons, List.drop_zero]; (repeat (go_big_quiet_step (rfl))); refine wpQuiet_nil ?_
          refine Go.Reg.step_w (fun K hK => ?_)
          go_wp2_with fail
          refine (next_nil 0 _).mono ?_
          rintro e w' ⟨rfl, rfl⟩
          go_wp2_with fail
          refine hK.out _ _ HBW.out ?_
          clear hK K
          refine Go.Reg.lex_q 4 _ _ _ _ (by rfl) ?_; simp only [List.take_succ_cons, List.take_zero, List.drop_succ_cons, List.drop_zero]; (repeat (go_big_quiet_step (rfl))); refine wpQuiet_nil ?_
          refine Go.Reg.step_w (fun K hK => ?_)
          go_wp2_with fail
          refine (gap_nil 0 _).mono ?_
          rintro e w' ⟨rfl, rfl⟩
          go_wp2_with fail
          refine hK.out _ _ HBW.out ?_
          clear hK K
          refine Go.Reg.lex_q 4 _ _ _ _ (by rfl) ?_; simp only [List.take_succ_cons, List.take_zero, List.drop_succ_cons, List.drop_zero]; (repeat (go_big_quiet_step (rfl))); refine wpQuiet_nil ?_
          refine Go.Reg.step_w (fun K hK => ?_)
          go_wp2_with fail
          refine (list_nil _).mono ?_
          rintro e w' ⟨rfl, rfl⟩
          go_wp2_with fail
          refine hK.out _ _ HBW.out ?_
          clear hK K
          refine Go.Reg.lex_q 5 _ _ _ _ (by rfl) ?_; simp only [List.take_succ_cons, List.take_zero, List.drop_succ_cons, List.drop_zero]; (repeat (go_big_quiet_step (rfl))); refine wpQuiet_nil ?_
          refine Go.Reg.step_w (fun K hK => ?_)
          go_wp2_with fail
          refine (clone_nil _).mono ?_
          rintro e w' ⟨rfl, rfl⟩
          go_wp2_with fail
          refine hK.out _ _ HBW.out ?_
          clear hK K
          refine Go.Reg.lex_q 3 _ _ _ _ (by rfl) ?_; simp only [List.take_succ_cons, List.take_zero, List.drop_succ_cons, List.drop_zero]; (repeat (go_big_quiet_step (rfl))); refine wpQuiet_nil ?_
          refine Go.Reg.step_w (fun K hK => ?_)
          go_wp2_with fail
          refine (awake_any _).mono ?_
          rintro e w10 ⟨rfl, b⟩
          replace HBW := Aside0.mk (HBW.out.trans (b.mono HBW.out.size))
          replace HTN := Aside0.mk (HTN.out.below b)
          clear b
          go_wp2_with fail
          refine hK.out _ _ HBW.out ?_
          clear hK K
          refine Go.Reg.lex_q 2 _ _ _ _ (by rfl) ?_; simp only [List.take_succ_cons, List.take_zero, List.drop_succ_cons, List.drop_zero]; (repeat (go_big_quiet_step (rfl))); refine wpQuiet_nil ?_
          refine Go.Reg.lex_nil ?_
          go_wp2_with fail
          go_ret
          exact ⟨rfl, HTN.out.bel⟩
theorem refof_no' (n : Int) (w : World) (h : n < 0 ∨ 4096 < n) :
    Calls Try.prog 23 #[.int .i64 n] w fun e w' => ∃ A c, e = .returned (.tuple #[.agg #[.slice A 0 c], .int .i64 1]) ∧ Below w.heap.size w w' := by
  refine (chantryref05_Of.calls n _ _ w (ref_of_no n h)).mono ?_
  rintro e w' ⟨v, rfl, hr, hb⟩
  obtain ⟨A, c, rfl⟩ := Kd.R_slice hr
  exact ⟨A, c, rfl, hb⟩
set_option maxHeartbeats 8000000 in
set_option maxRecDepth 100000 in
theorem clones_out (n : Int) (A A2 : Option Addr) (c m c2 m2 : Nat) (w : World) (hn : n < 0 ∨ 4096 < n) :
    Calls Try.prog 8 #[.int .i64 n, .slice A m c, .slice A2 m2 c2] w fun e w' => e = .returned (.bool true) ∧ Below w.heap.size w w' := by
  go_enter Try.func8, Try.ntmps8
  go_wp2_with fail
  refine (of_no n _ hn).mono ?_
  rintro e w1 ⟨rfl, rfl⟩
  go_wp2_with fail
  refine (refof_no' n _ hn).mono ?_
  rintro e w2 ⟨AX0, cX0, rfl, b2⟩
  have HB2 := Lib.hid b2
  clear b2
  go_wp2_with fail
  refine (awake_any _).mono ?_
  rintro e w' ⟨rfl, hb⟩
  go_wp2_with fail
  go_ret
  have h3 := HB2.out.alloc HB2.out.size (.cells #[.slice AX0 0 cX0] 38)
  exact ⟨rfl, h3.trans (hb.mono h3.size)⟩
set_option maxHeartbeats 8000000 in
set_option maxRecDepth 100000 in
theorem clones_large (n : Nat) (A A2 : Option Addr) (c m c2 m2 : Nat) (w : World) (hn : n ≤ 4096) (hx : 40 < m ∨ m ≤ 40 ∧ 40 < m2) :
    Calls Try.prog 8 #[.int .i64 n, .slice A m c, .slice A2 m2 c2] w fun e w' => e = .returned (.bool true) ∧ Below w.heap.size w w' := by
  rcases hx with hx | ⟨hx1, hx⟩
  all_goals
    go_enter Try.func8, Try.ntmps8
    go_wp2_with fail
    refine (of_at n _ hn).mono ?_
    rintro e w1 ⟨rfl, a1, b1⟩
    have HB := Lib.hid b1
    clear a1 b1
    go_wp2_with fail
    refine (refof_yes n _ hn).mono ?_
    rintro e w2 ⟨v, rfl, hr, b2⟩
    obtain ⟨AX0, cX0, rfl⟩ := Kd.R_slice hr
    have HB2 := Lib.hid b2
    clear hr b2
    go_wp2_with fail
    refine (awake_any _).mono ?_
    rintro e w' ⟨rfl, hb⟩
    go_wp2_with fail
    go_ret
    have h2 : Below w.heap.size w w2 := HB.out.trans (HB2.out.mono HB.out.size)
    have h3 : Below w.heap.size w (w2.alloc (.cells #[.slice AX0 n cX0] 38)) := h2.alloc h2.size _
    exact ⟨rfl, h3.trans (hb.mono h3.size)⟩
theorem clones_walk (n : Int) (A A2 : Option Addr) (c c2 : Nat) (ys zs : List S42) (w : World) (hr : Kd.C k42 w A ys.length ys) (hc : ys.length ≤ c) (hr2 : Kd.C k42 w A2 zs.length zs) (hc2 : zs.length ≤ c2) :
    Calls Try.prog 8 #[.int .i64 n, .slice A ys.length c, .slice A2 zs.length c2] w fun e w' => e = .returned (.bool true) ∧ Below w.heap.size w w' := by
  by_cases hn : 0 ≤ n ∧ n ≤ 4096
  · obtain ⟨k, rfl⟩ := Int.eq_ofNat_of_zero_le hn.1
    by_cases hx : ys.length ≤ 40 ∧ zs.length ≤ 40
    · exact clones_main k A A2 c c2 ys zs w (by omega) hx.1 hx.2 hr hc hr2 hc2
    · exact clones_large k A A2 c ys.length c2 zs.length w (by omega) (by omega)
  · exact clones_out n A A2 c ys.length c2 zs.length w (by omega)
end Bits
end Go.Proofs.Ytbcifbogmjfpoaa
