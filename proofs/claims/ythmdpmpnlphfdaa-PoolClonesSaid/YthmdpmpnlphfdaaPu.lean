/- The pool in memory: PoolDoes. -/
import Derived.Test.YthmdpmpnlphfdaaPk
import Derived.Test.YthmdpmpnlphfdaaOp
import Derived.Test.YthmdpmpnlphfdaaReg3
import Derived.Test.YthmdpmpnlphfdaaReg2
import Derived.Below
import Derived.Deep.MidRow
import Derived.Deep.WholeRow
import Derived.Great.BuildSlice
import Derived.Lib.Hide
import Derived.OwnWalk
import Derived.WalkKit
import Derived.KernelRfl
import Derived.RowKit3
import Derived.Deep.LoopGhost
import Derived.Deep.QuietTactic
import Derived.BigQuiet
import Derived.WideLaws
import Derived.Outline
import Derived.Deep.DeepCutAuto
import Derived.Deep.CutBlock
import Derived.WalkSpells
import Derived.RegionTactic
import Derived.BigRegion
import Derived.WalkLawsBesides
namespace Go.Proofs.Ythmdpmpnlphfdaa
set_option linter.unusedVariables false
set_option linter.unusedSimpArgs false
open Go.RowKit Go.Proofs.YthmdpmpnlphfdaaW.PrintWords Go.Proofs.YthmdpmpnlphfdaaW.PrintLast Go.Proofs.YthmdpmpnlphfdaaW.PrintMore
namespace Bits
open Go.Bits Go.Pool PPoolDoes Go.Proofs.Ythmdpmpnlphfdaa.Op
theorem few_l (ys : List S38) : ∀ (k p : Nat), ys.length < p + k → p ≤ ys.length → ys.length ≤ 30 → (∀ j, j < p → (rd_T38 ys j).f2.length ≤ 30) → ∃ r, chantrylaw11_few.l0 k ys p = some r ∧ (r = true → ∀ j, j < ys.length → (rd_T38 ys (j : Nat)).f2.length ≤ 30)
  | 0, p, h1, h2, _, _ => by omega
  | k + 1, p, h1, h2, h3, h4 => by
    simp only [chantrylaw11_few.l0]
    by_cases hp : p < ys.length
    · rw [if_pos (by omega), if_pos (by omega)]
      by_cases hq : (((rd_T38 ys (p : Int)).f2).length : Int) > 30
      · rw [if_pos hq]
        exact ⟨false, rfl, fun h => by cases h⟩
      · rw [if_neg hq, wrap_up p (by omega)]
        exact few_l ys k (p + 1) (by omega) (by omega) h3 (fun j hj => by
          rcases Nat.lt_or_ge j p with h | h
          · exact h4 j h
          · have : j = p := by omega
            subst this
            omega)
    · rw [if_neg (by omega)]
      exact ⟨true, rfl, fun _ j hj => h4 j (by omega)⟩
theorem few_plain (ys : List S38) : ∃ r, chantrylaw11_few.f 100 ys = some r ∧ (r = true → ys.length ≤ 30 ∧ ∀ j, j < ys.length → (rd_T38 ys (j : Nat)).f2.length ≤ 30) := by
  unfold chantrylaw11_few.f
  by_cases h : (ys.length : Int) > 30
  · rw [if_pos h]
    exact ⟨false, rfl, fun h => by cases h⟩
  · rw [if_neg h]
    obtain ⟨r, h1, h2⟩ := few_l ys 100 0 (by omega) (Nat.zero_le _) (by omega) (fun j hj => by omega)
    exact ⟨r, h1, fun h3 => ⟨by omega, h2 h3⟩⟩
/-- What the document's variable holds. -/
structure Two (w0 w : World) (pb sb xb : Nat) (fr : Int) (v : Value) (l : List Bool) : Prop where
  pool : PAt w pb sb fr l
  row : PRow w w0.heap.size v l
  bel : Below w0.heap.size w0 w
  var : w.heap[xb]? = some (.cells #[.int .i64 fr, v] 29 (0, 0))
  sbase : w0.heap.size ≤ sb
  pbase : w0.heap.size ≤ pb
  xbase : w0.heap.size ≤ xb
theorem Two.pair {w0 w : World} {pb sb xb : Nat} {fr : Int} {v : Value} {l : List Bool} (h : Two w0 w pb sb xb fr v l) : Pair w0 w pb sb fr v l := ⟨h.pool, h.row, h.bel, h.sbase, h.pbase⟩
theorem Two.below {w0 w w' : World} {pb sb xb : Nat} {fr : Int} {v : Value} {l : List Bool} (h : Two w0 w pb sb xb fr v l) (hb : Below w.heap.size w w') : Two w0 w' pb sb xb fr v l :=
  ⟨h.pool.below hb, Kd.R_below h.row hb, h.bel.trans (hb.mono h.bel.size), (hb.block xb (Array.getElem?_eq_some_iff.1 h.var).1).trans h.var, h.sbase, h.pbase, h.xbase⟩
theorem Two.xlt {w0 w : World} {pb sb xb : Nat} {fr : Int} {v : Value} {l : List Bool} (h : Two w0 w pb sb xb fr v l) : xb < w.heap.size := (Array.getElem?_eq_some_iff.1 h.var).1
theorem Two.xne {w0 w : World} {pb sb xb : Nat} {fr : Int} {v : Value} {l : List Bool} (h : Two w0 w pb sb xb fr v l) : xb ≠ sb ∧ xb ≠ pb := by
  obtain ⟨ws, hb, _⟩ := h.pool.set
  refine ⟨fun e => ?_, fun e => ?_⟩
  · rw [← e, h.var] at hb
    simp at hb
  · have := h.pool.cells
    rw [← e, h.var] at this
    simp at this
/-- Behind a deed: the document's answer laid into the variable. -/
theorem Two.next {w0 w w1 : World} {pb sb xb : Nat} {fr : Int} {v v' : Value} {l l' : List Bool} (h : Two w0 w pb sb xb fr v l) (hp : PAt w1 pb sb fr l') (hr : PRow w1 w0.heap.size v' l') (ho : Only sb w w1) :
    Two w0 ((w1.setCell ⟨xb, 0, none⟩ (.int .i64 fr)).setCell ⟨xb, 1, none⟩ v') pb sb xb fr v' l' := by
  have hx := ho.blk h.var h.xne.1
  obtain ⟨s1, s2⟩ := two_set hx (.int .i64 fr) v'
  have hb1 := ho.below h.bel h.sbase h.bel.size
  exact ⟨hp.step (s2.block pb hp.lt (Ne.symm h.xne.2)) (s2.block sb hp.set.lt (Ne.symm h.xne.1)), row_only hr s2 (Kd.R_ne hr hx (by decide)), s2.below hb1 h.xbase hb1.size, s1, h.sbase, h.pbase, h.xbase⟩
set_option maxHeartbeats 8000000 in
set_option maxRecDepth 100000 in
theorem does_yes (fr n : Nat) (A : Option Addr) (c : Nat) (ys : List S38) (w : World) (hn : fr + n ≤ 1024) (hC : Kd.C k38 w A ys.length ys) (hc : ys.length ≤ c) (hg : ∀ y ∈ ys, inI64 y.f1 ∧ ∀ z ∈ y.f2, inI64 z) :
    Calls Try.prog 3 #[.int .i64 fr, .int .i64 ((fr : Int) + (n : Int)), .slice A ys.length c] w fun e w' => e = .returned (.bool true) ∧ Below w.heap.size w w' := by
  have HYS := Aside0.mk hC
  have HG := Aside0.mk hg
  clear hC hg
  go_enter Try.func3, Try.ntmps3
  go_wp2_with fail
  refine (pool_of_yes fr n w hn).mono ?_
  rintro e w1 ⟨pb, sb, rfl, p1, b1, g1, g2⟩
  have HP := Aside0.mk p1
  have HB := Aside0.mk b1
  have HGE := Aside0.mk (show w.heap.size ≤ pb ∧ w.heap.size ≤ sb from ⟨g1, g2⟩)
  clear p1 b1 g1 g2
  go_wp2_with fail
  refine (chantryref11_Of.calls _ _ _ _ _ _ (pref_of_yes fr n hn)).mono ?_
  rintro e w2 ⟨v0, rfl, hr, b2⟩
  obtain ⟨AX0, cX0, rfl⟩ := Kd.R_slice hr
  have HTW := Aside0.mk (show Two w (w2.alloc (.cells #[.int .i64 fr, .slice AX0 (List.replicate n false).length cX0] 29)) pb sb w2.heap.size fr (.slice AX0 (List.replicate n false).length cX0) (List.replicate n false) from by
    have hal := (Below.refl w2.heap.size w2).alloc (Nat.le_refl _) (.cells #[.int .i64 fr, .slice AX0 (List.replicate n false).length cX0] 29)
    have hb12 := HB.out.trans (b2.mono HB.out.size)
    exact ⟨(HP.out.below b2).below hal, Kd.R_below (fresh_row hr HB.out.size) hal, hb12.trans (hal.mono hb12.size), heap_alloc_new w2 _, HGE.out.2, HGE.out.1, hb12.size⟩)
  clear hr b2
  rw [List.length_replicate] at HTW
  simp only [List.length_replicate]
  obtain ⟨r, hr, hfew⟩ := few_plain ys
  have HFEW := Aside0.mk hfew
  clear hfew
  go_wp2_with fail
  refine (chantrylaw11_few.calls 100 A c ys r _ (Kd.C_below HYS.out HTW.out.bel) hc hr).mono ?_
  rintro e w3 ⟨rfl, ⟨m3, rfl⟩⟩
  obtain ⟨w3, hw3⟩ : ∃ w3, w3 = (w2.alloc (.cells #[.int .i64 fr, .slice AX0 n cX0] 29)).drewN m3 := ⟨_, rfl⟩
  rw [← hw3]
  replace HTW := Aside0.mk (show Two w w3 pb sb w2.heap.size fr (.slice AX0 n cX0) (List.replicate n false) by rw [hw3]; exact HTW.out.below (pw_below_drewN (Below.refl _ _) m3))
  clear hw3 hr
  cases r with
  | false =>
    go_wp2_with fail
    refine (awake_any _).mono ?_
    rintro e w4 ⟨rfl, b⟩
    go_wp2_with fail
    go_ret
    exact ⟨rfl, HTW.out.bel.trans (b.mono HTW.out.bel.size)⟩
  | true =>
    have hlen : ys.length ≤ 30 := (HFEW.out rfl).1
    have HX30 := Aside0.mk (HFEW.out rfl).2
    clear HFEW
    go_wp2_with fail
    go_loopg [11, 12, 13] ys.length (fun g v11 v12 v13 wr => ∃ (i : Nat) (l : List Bool) (AX : Option Addr) (cX : Nat), Aside0 (i + g = ys.length) ∧ v11 = .int .i64 i ∧ Aside0 (Two w wr pb sb w2.heap.size fr (.slice AX l.length cX) l))
    case atStart => exact ⟨0, List.replicate n false, AX0, cX0, ⟨by omega⟩, rfl, by simpa only [List.length_replicate] using HTW⟩
    case round =>
      clear HTW
      obtain ⟨i, l, AX, cX, HI, rfl, HTW⟩ := hrel
      by_cases hi : i < ys.length
      · obtain ⟨ad, A2, c2, rfl, hc0, hc1, hc2, hl2, hC2⟩ := at_T38 HYS.out i (by omega) (by omega)
        have HGI := Aside0.mk (HG.out _ (show rd_T38 ys i ∈ ys by unfold rd_T38; rw [Int.toNat_natCast, List.getD_eq_getElem?_getD, List.getElem?_eq_getElem hi]; exact List.getElem_mem hi))
        have hx30 := HX30.out i hi
        obtain ⟨K, hK⟩ : ∃ y, y = (rd_T38 ys i).f0 := ⟨_, rfl⟩
        obtain ⟨N, hN⟩ : ∃ y, y = (rd_T38 ys i).f1 := ⟨_, rfl⟩
        obtain ⟨xs, hxs⟩ : ∃ y, y = (rd_T38 ys i).f2 := ⟨_, rfl⟩
        rw [← hK, Int.toNat_natCast] at hc0
        rw [← hN, Int.toNat_natCast] at hc1
        rw [← hxs, Int.toNat_natCast] at hc2
        rw [← hxs] at hl2 hC2 hx30
        rw [← hN, ← hxs] at HGI
        clear hK hN hxs
        have HC2 := Aside0.mk hC2
        have HD0 := Aside0.mk hc0
        have HD1 := Aside0.mk hc1
        have HD2 := Aside0.mk hc2
        have HO := Aside0.mk HTW.out.bel
        have hxw := HTW.out.xlt
        clear hc0 hc1 hc2 hC2
        go_wp2_with fail
        refine Go.Reg.region_fork (Only sb wr) [.s, .s, .s, .s, .s, .s, .w, .p, .p, .p, .w, .x, .p] [0, 1, 2, 3, 4, 5] 6 10 [7, 8, 9, 10, 11, 12] [6, 7, 8, 9, 11, 12] (by kernel_rfl) (by kernel_rfl) (.of_below (below_drew1 (Below.refl _ _))) (fun ne => ?_)
        have hxne := HTW.out.xne
        have hx0 : ∀ m : Go.Reg.In (Only sb wr), m.w.cell? ⟨w2.heap.size, 0, none⟩ = some (.int .i64 fr) := fun m => cell_blk (m.h.blk HTW.out.var hxne.1)
        have hx1 : ∀ m : Go.Reg.In (Only sb wr), m.w.cell? ⟨w2.heap.size, 1, none⟩ = some (.slice AX l.length cX) := fun m => cell_blk (m.h.blk HTW.out.var hxne.1)
        have HBM := Aside0.mk (show ∀ m : Go.Reg.In (Only sb wr), Below w.heap.size w m.w from fun m => m.h.below HTW.out.bel HTW.out.sbase HTW.out.bel.size)
        have hd0 : ∀ m : Go.Reg.In (Only sb wr), m.w.cell? (ad.add (i * 3)) = some (.int .i64 K) := fun m => ((HBM.out m).cell (World.block_lt_of_cell? w _ HD0.out)).trans HD0.out
        have hd1 : ∀ m : Go.Reg.In (Only sb wr), m.w.cell? ⟨(ad.add (i * 3)).block, (ad.add (i * 3)).off + 1, none⟩ = some (.int .i64 N) := fun m => ((HBM.out m).cell (World.block_lt_of_cell? w _ HD1.out)).trans HD1.out
        have hd2 : ∀ m : Go.Reg.In (Only sb wr), m.w.cell? ⟨(ad.add (i * 3)).block, (ad.add (i * 3)).off + 2, none⟩ = some (.slice A2 xs.length c2) := fun m => ((HBM.out m).cell (World.block_lt_of_cell? w _ HD2.out)).trans HD2.out
        dsimp only [Go.Reg.pick, List.filterMap, List.map, List.getD_eq_getElem?_getD]
        simp only [List.getElem?_toArray, List.getElem?_cons_zero, List.getElem?_cons_succ, List.filterMap_cons, List.filterMap_nil, Option.getD_some]
        refine Go.Reg.lex_q 6 _ _ _ _ (by rfl) ?_; simp only [List.take_succ_cons, List.take_zero, List.drop_succ_cons, List.drop_zero]; (repeat (go_big_quiet_step (rfl))); refine wpQuiet_nil ?_
        refine Go.Reg.lex_nil ?_
        have HTD := Aside0.mk (HTW.out.below (below_drew1 (Below.refl _ _)))
        have HOD := Aside0.mk (Only.of_below (b := sb) (below_drew1 (Below.refl wr.heap.size wr)))
        have HNE := Aside0.mk (show sb < wr.heap.size ∧ pb < wr.heap.size from ⟨HTW.out.pool.set.lt, HTW.out.pool.lt⟩)
        refine ⟨?_, ?_, fun o ho => ?_⟩
        · refine Go.Reg.step_w (fun KK hKK => ?_)
          go_wp2_with fail
          refine (do_any (w0 := w) K N A2 c2 xs HTD.out.pool HTD.out.row HTD.out.bel HTD.out.sbase (fun W hW => Kd.C_below HC2.out hW) hl2 (fun z hz => (HGI.out.2 z hz).2) hx30 HGI.out.1.2).mono ?_
          rintro e w4 ⟨v4, rfl, hp4, hr4, ho4⟩
          obtain ⟨A4, c4, rfl⟩ := Kd.R_slice hr4
          have HO4 := Aside0.mk (HOD.out.trans ho4)
          have HP4 := Aside0.mk hp4
          have HR4 := Aside0.mk hr4
          clear hp4 hr4 ho4
          go_wp2_with fail
          refine hKK.out _ _ HO4.out ?_
          clear hKK KK
          refine Go.Reg.lex_qp 3 _ _ _ _ _ (by rfl) ?_; simp only [List.take_succ_cons, List.take_zero, List.drop_succ_cons, List.drop_zero]; (repeat (go_big_quiet_step (rfl))); refine wpQuiet_nil ?_
          refine Go.Reg.step_w (fun KK hKK => ?_)
          go_wp2_with fail
          have hal := (Below.refl w4.heap.size w4).alloc (Nat.le_refl _) (.cells #[.int .i64 0, .slice none 0 0] 29)
          have hnb := heap_alloc_new w4 (.cells #[.int .i64 0, .slice none 0 0] 29)
          obtain ⟨w5, hw5⟩ : ∃ w5, w5 = w4.alloc (.cells #[.int .i64 0, .slice none 0 0] 29) := ⟨_, rfl⟩
          rw [← hw5] at hal hnb
          rw [← hw5]
          have HO5 := Aside0.mk (HO4.out.trans (.of_below hal))
          have HP5 := Aside0.mk (HP4.out.below hal)
          have HR5 := Aside0.mk (Kd.R_below HR4.out hal)
          have HNB := Aside0.mk hnb
          have htb := HO4.out.size
          obtain ⟨tb, htbe⟩ : ∃ tb, tb = w4.heap.size := ⟨_, rfl⟩
          rw [← htbe] at HNB htb
          rw [← htbe]
          clear hw5 hal hnb htbe
          refine hKK.out _ _ HO5.out ?_
          clear hKK KK
          have e0 : w5.cell? ⟨tb, 0, none⟩ = some (.int .i64 0) := cell_blk HNB.out
          have e1 : w5.cell? ⟨tb, 1, none⟩ = some (.slice none 0 0) := cell_blk HNB.out
          have e2 : w5.frozen? ⟨tb, 0, none⟩ = false := frozen_blk HNB.out
          have e3 : w5.frozen? ⟨tb, 1, none⟩ = false := frozen_blk HNB.out
          refine Go.Reg.step_x (by rfl) (fun KK hKK => ?_)
          go_wp2_with fail
          obtain ⟨w6, hw6⟩ : ∃ w6, w6 = (w5.setCell ⟨tb, 0, none⟩ (.int .i64 fr)).setCell ⟨tb, 1, none⟩ (.slice A4 (doL fr l K N xs).length c4) := ⟨_, rfl⟩
          rw [← hw6]
          obtain ⟨s1, s2⟩ := two_set HNB.out (.int .i64 fr) (.slice A4 (doL fr l K N xs).length c4)
          rw [← hw6] at s1 s2
          have htl := HTW.out.xlt
          have hne6 := HNE.out
          have HO6 := Aside0.mk (HO5.out.forget s2 htb)
          have HP6 := Aside0.mk (HP5.out.step (s2.block pb HP5.out.lt (by omega)) (s2.block sb HP5.out.set.lt (by omega)))
          have HR6 := Aside0.mk (row_only HR5.out s2 (Kd.R_ne HR5.out HNB.out (by decide)))
          have HX6 := Aside0.mk (s2.blk (HO5.out.blk HTW.out.var HTW.out.xne.1) (by omega))
          have HTN := Aside0.mk (HTW.out.next HP6.out HR6.out HO6.out)
          have f0 : w6.cell? ⟨tb, 0, none⟩ = some (.int .i64 fr) := cell_blk s1
          have f1 : w6.cell? ⟨tb, 1, none⟩ = some (.slice A4 (doL fr l K N xs).length c4) := cell_blk s1
          have x0 : w6.cell? ⟨w2.heap.size, 0, none⟩ = some (.int .i64 fr) := cell_blk HX6.out
          have x1 : w6.cell? ⟨w2.heap.size, 1, none⟩ = some (.slice AX l.length cX) := cell_blk HX6.out
          have x2 : w6.frozen? ⟨w2.heap.size, 0, none⟩ = false := frozen_blk HX6.out
          have x3 : w6.frozen? ⟨w2.heap.size, 1, none⟩ = false := frozen_blk HX6.out
          clear hw6 s1 s2 e0 e1 e2 e3 hx0 hx1 hd0 hd1 hd2
          refine hKK.out _ _ ?_
          clear hKK KK
          refine Go.Reg.lex_qp 1 _ _ _ _ _ (by rfl) ?_; simp only [List.take_succ_cons, List.take_zero, List.drop_succ_cons, List.drop_zero]; (repeat (go_big_quiet_step (rfl))); refine wpQuiet_nil ?_
          refine Go.Reg.lex_nil ?_
          go_wp2_with fail
          refine (alike_any HTN.out.pair).mono ?_
          rintro e w8 ⟨rfl, b8⟩
          replace HTN := Aside0.mk (HTN.out.below b8)
          clear b8 f0 f1 x0 x1 x2 x3
          go_wp2_with fail
          go_roundg (gk - 1)
          case measure => have := HI.out; omega
          case rel => exact ⟨i + 1, doL fr l K N xs, A4, c4, ⟨by have := HI.out; omega⟩, by go_num, HTN⟩
        · refine Go.Reg.step_w (fun KK hKK => ?_)
          go_wp2_with fail
          obtain ⟨w4, hw4⟩ : ∃ w4, w4 = (wr.alloc (.cells #[.int .i64 0, .slice none 0 0] 29)).drew := ⟨_, rfl⟩
          have hal : Below wr.drew.heap.size wr.drew w4 := by rw [hw4]; exact (Below.refl wr.drew.heap.size wr.drew).alloc (Nat.le_refl _) (.cells #[.int .i64 0, .slice none 0 0] 29)
          have hnb : w4.heap[wr.heap.size]? = some (.cells #[.int .i64 0, .slice none 0 0] 29 (0, 0)) := by rw [hw4]; exact heap_alloc_new wr.drew (.cells #[.int .i64 0, .slice none 0 0] 29)
          rw [← hw4]
          have HO4 := Aside0.mk (HOD.out.trans (.of_below hal))
          have HT4 := Aside0.mk (HTD.out.below hal)
          have HNB4 := Aside0.mk hnb
          have htb : wr.heap.size ≤ wr.heap.size := Nat.le_refl _
          obtain ⟨tb, htbe⟩ : ∃ tb, tb = wr.heap.size := ⟨_, rfl⟩
          have htb : wr.heap.size ≤ tb := by omega
          rw [← htbe] at HNB4
          rw [← htbe]
          clear hw4 hal hnb htbe
          refine hKK.out _ _ HO4.out ?_
          clear hKK KK
          refine Go.Reg.step_w (fun KK hKK => ?_)
          go_wp2_with fail
          refine (do_any (w0 := w) K N A2 c2 xs HT4.out.pool HT4.out.row HT4.out.bel HT4.out.sbase (fun W hW => Kd.C_below HC2.out hW) hl2 (fun z hz => (HGI.out.2 z hz).2) hx30 HGI.out.1.2).mono ?_
          rintro e w5 ⟨v4, rfl, hp4, hr4, ho4⟩
          obtain ⟨A4, c4, rfl⟩ := Kd.R_slice hr4
          have HO5 := Aside0.mk (HO4.out.trans ho4)
          have HP5 := Aside0.mk hp4
          have HR5 := Aside0.mk hr4
          have HNB := Aside0.mk (ho4.blk HNB4.out (by have := HNE.out; omega))
          clear hp4 hr4 ho4
          go_wp2_with fail
          refine hKK.out _ _ HO5.out ?_
          clear hKK KK
          refine Go.Reg.lex_qp 3 _ _ _ _ _ (by rfl) ?_; simp only [List.take_succ_cons, List.take_zero, List.drop_succ_cons, List.drop_zero]; (repeat (go_big_quiet_step (rfl))); refine wpQuiet_nil ?_
          have e0 : w5.cell? ⟨tb, 0, none⟩ = some (.int .i64 0) := cell_blk HNB.out
          have e1 : w5.cell? ⟨tb, 1, none⟩ = some (.slice none 0 0) := cell_blk HNB.out
          have e2 : w5.frozen? ⟨tb, 0, none⟩ = false := frozen_blk HNB.out
          have e3 : w5.frozen? ⟨tb, 1, none⟩ = false := frozen_blk HNB.out
          refine Go.Reg.step_x (by rfl) (fun KK hKK => ?_)
          go_wp2_with fail
          obtain ⟨w6, hw6⟩ : ∃ w6, w6 = (w5.setCell ⟨tb, 0, none⟩ (.int .i64 fr)).setCell ⟨tb, 1, none⟩ (.slice A4 (doL fr l K N xs).length c4) := ⟨_, rfl⟩
          rw [← hw6]
          obtain ⟨s1, s2⟩ := two_set HNB.out (.int .i64 fr) (.slice A4 (doL fr l K N xs).length c4)
          rw [← hw6] at s1 s2
          have htl := HTW.out.xlt
          have hne6 := HNE.out
          have HO6 := Aside0.mk (HO5.out.forget s2 htb)
          have HP6 := Aside0.mk (HP5.out.step (s2.block pb HP5.out.lt (by omega)) (s2.block sb HP5.out.set.lt (by omega)))
          have HR6 := Aside0.mk (row_only HR5.out s2 (Kd.R_ne HR5.out HNB.out (by decide)))
          have HX6 := Aside0.mk (s2.blk (HO5.out.blk HTW.out.var HTW.out.xne.1) (by omega))
          have HTN := Aside0.mk (HTW.out.next HP6.out HR6.out HO6.out)
          have f0 : w6.cell? ⟨tb, 0, none⟩ = some (.int .i64 fr) := cell_blk s1
          have f1 : w6.cell? ⟨tb, 1, none⟩ = some (.slice A4 (doL fr l K N xs).length c4) := cell_blk s1
          have x0 : w6.cell? ⟨w2.heap.size, 0, none⟩ = some (.int .i64 fr) := cell_blk HX6.out
          have x1 : w6.cell? ⟨w2.heap.size, 1, none⟩ = some (.slice AX l.length cX) := cell_blk HX6.out
          have x2 : w6.frozen? ⟨w2.heap.size, 0, none⟩ = false := frozen_blk HX6.out
          have x3 : w6.frozen? ⟨w2.heap.size, 1, none⟩ = false := frozen_blk HX6.out
          clear hw6 s1 s2 e0 e1 e2 e3 hx0 hx1 hd0 hd1 hd2
          refine hKK.out _ _ ?_
          clear hKK KK
          refine Go.Reg.lex_qp 1 _ _ _ _ _ (by rfl) ?_; simp only [List.take_succ_cons, List.take_zero, List.drop_succ_cons, List.drop_zero]; (repeat (go_big_quiet_step (rfl))); refine wpQuiet_nil ?_
          refine Go.Reg.lex_nil ?_
          go_wp2_with fail
          refine (alike_any HTN.out.pair).mono ?_
          rintro e w8 ⟨rfl, b8⟩
          replace HTN := Aside0.mk (HTN.out.below b8)
          clear b8 f0 f1 x0 x1 x2 x3
          go_wp2_with fail
          go_roundg (gk - 1)
          case measure => have := HI.out; omega
          case rel => exact ⟨i + 1, doL fr l K N xs, A4, c4, ⟨by have := HI.out; omega⟩, by go_num, HTN⟩
        · simp at ho
          rcases ho with rfl | rfl <;> rfl
      · go_wp2_with fail
        refine (awake_any _).mono ?_
        rintro e w' ⟨rfl, hb⟩
        go_wp2_with fail
        go_ret
        exact ⟨rfl, HTW.out.bel.trans (hb.mono HTW.out.bel.size)⟩
set_option maxHeartbeats 8000000 in
set_option maxRecDepth 100000 in
theorem does_no (a0 a1 : Int) (A : Option Addr) (c : Nat) (ys : List S38) (w : World) (hn : a0 < 0 ∨ a1 < a0 ∨ 1024 < a1) (hC : Kd.C k38 w A ys.length ys) (hc : ys.length ≤ c) :
    Calls Try.prog 3 #[.int .i64 a0, .int .i64 a1, .slice A ys.length c] w fun e w' => e = .returned (.bool true) ∧ Below w.heap.size w w' := by
  have HYS := Aside0.mk hC
  have HN := Aside0.mk hn
  clear hC hn
  go_enter Try.func3, Try.ntmps3
  go_wp2_with fail
  refine (pool_of_no a0 a1 w HN.out).mono ?_
  rintro e w1 ⟨rfl, rfl⟩
  go_wp2_with fail
  refine (chantryref11_Of.calls _ _ _ _ _ _ (pref_of_no a0 a1 HN.out)).mono ?_
  rintro e w2 ⟨v0, rfl, hr, b2⟩
  obtain ⟨AX0, cX0, rfl⟩ := Kd.R_slice hr
  have HB := Aside0.mk b2
  obtain ⟨r, hr, hfew⟩ := few_plain ys
  have HFEW := Aside0.mk hfew
  clear hfew
  clear b2
  go_wp2_with fail
  have HB3 := Aside0.mk (HB.out.alloc HB.out.size (.cells #[.int .i64 0, .slice AX0 ([] : List Bool).length cX0] 29))
  refine (chantrylaw11_few.calls 100 A c ys r _ (Kd.C_below HYS.out HB3.out) hc hr).mono ?_
  rintro e w3 ⟨rfl, ⟨m3, rfl⟩⟩
  obtain ⟨w3, hw3⟩ : ∃ w3, w3 = (w2.alloc (.cells #[.int .i64 0, .slice AX0 0 cX0] 29)).drewN m3 := ⟨_, rfl⟩
  have HB4 := Aside0.mk (pw_below_drewN HB3.out m3)
  simp only [List.length_nil] at HB4
  rw [← hw3] at HB4
  try simp only [List.length_nil]
  rw [← hw3]
  clear hw3 hr
  cases r with
  | false =>
    go_wp2_with fail
    refine (awake_any _).mono ?_
    rintro e w4 ⟨rfl, b⟩
    go_wp2_with fail
    go_ret
    exact ⟨rfl, HB4.out.trans (b.mono HB4.out.size)⟩
  | true =>
    go_wp2_with fail
    go_loopg [11, 12, 13] 1 (fun g v11 v12 v13 wr => v11 = .int .i64 0 ∧ Aside0 (Below w.heap.size w wr))
    case atStart => exact ⟨rfl, HB4⟩
    case round =>
      obtain ⟨rfl, HBW⟩ := hrel
      by_cases hz : 0 < ys.length
      · go_wp2_with fail
        refine (awake_any _).mono ?_
        rintro e w4 ⟨rfl, b⟩
        go_wp2_with fail
        go_ret
        exact ⟨rfl, HBW.out.trans (b.mono HBW.out.size)⟩
      · go_wp2_with fail
        refine (awake_any _).mono ?_
        rintro e w4 ⟨rfl, b⟩
        go_wp2_with fail
        go_ret
        exact ⟨rfl, HBW.out.trans (b.mono HBW.out.size)⟩
theorem does_walk (a0 a1 : Int) (A : Option Addr) (c : Nat) (ys : List S38) (w : World) (hC : Kd.C k38 w A ys.length ys) (hc : ys.length ≤ c) (hg : ∀ y ∈ ys, inI64 y.f1 ∧ ∀ z ∈ y.f2, inI64 z) :
    Calls Try.prog 3 #[.int .i64 a0, .int .i64 a1, .slice A ys.length c] w fun e w' => e = .returned (.bool true) ∧ Below w.heap.size w w' := by
  by_cases hn : a0 < 0 ∨ a1 < a0 ∨ 1024 < a1
  · exact does_no a0 a1 A c ys w hn hC hc
  · have := does_yes a0.toNat (a1 - a0).toNat A c ys w (by omega) hC hc hg
    rw [show ((a0.toNat : Nat) : Int) = a0 by omega, show (((a1 - a0).toNat : Nat) : Int) = a1 - a0 by omega, show a0 + (a1 - a0) = a1 by omega] at this
    exact this
end Bits
end Go.Proofs.Ythmdpmpnlphfdaa
