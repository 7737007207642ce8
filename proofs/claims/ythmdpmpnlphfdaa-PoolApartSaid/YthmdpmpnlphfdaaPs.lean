/- The pool in memory: contracts, the laws' helpers. -/
import Derived.Test.YthmdpmpnlphfdaaPr
import Derived.Test.YthmdpmpnlphfdaaReg
import Derived.Below
import Derived.Deep.MidRow
import Derived.Deep.WholeRow
import Derived.Great.BuildSlice
import Derived.Lib.Hide
import Derived.OwnWalk
import Derived.WalkKit
import Derived.KernelRfl
import Derived.RowKit3
import Derived.Deep.LoopGhost
import Derived.Deep.QuietTactic
import Derived.BigQuiet
import Derived.WideLaws
import Derived.Outline
import Derived.Deep.DeepCutAuto
import Derived.Deep.CutBlock
import Derived.WalkSpells
import Derived.RegionTactic
import Derived.BigRegion
import Derived.WalkLawsBesides
namespace Go.Proofs.Ythmdpmpnlphfdaa
set_option linter.unusedVariables false
set_option linter.unusedSimpArgs false
open Go.RowKit Go.Proofs.YthmdpmpnlphfdaaW.PrintWords Go.Proofs.YthmdpmpnlphfdaaW.PrintLast Go.Proofs.YthmdpmpnlphfdaaW.PrintMore
namespace Bits
open Go.Bits Go.Pool PPoolDoes
/-- The document's row in memory. -/
abbrev PRow (w : World) (base : Nat) (v : Value) (l : List Bool) : Prop := Kd.R Kd.bool 4 w base (fun k => some k = v.ownBlock) v l
/-- The program's pool and the document's, side by side. -/
structure Pair (w0 w : World) (pb sb : Nat) (fr : Int) (v : Value) (l : List Bool) : Prop where
  pool : PAt w pb sb fr l
  row : PRow w w0.heap.size v l
  bel : Below w0.heap.size w0 w
  sbase : w0.heap.size ≤ sb
  pbase : w0.heap.size ≤ pb
theorem Pair.below {w0 w w' : World} {pb sb : Nat} {fr : Int} {v : Value} {l : List Bool} (h : Pair w0 w pb sb fr v l) (hb : Below w.heap.size w w') : Pair w0 w' pb sb fr v l :=
  ⟨h.pool.below hb, Kd.R_below h.row hb, h.bel.trans (hb.mono h.bel.size), h.sbase, h.pbase⟩
theorem ints_l (l : List Int) (hl : l.length ≤ 4096) : ∀ (k : Nat) (p : Nat), l.length < p + k → p ≤ l.length → chantryref01_Ints.l0 k l l p = some true
  | 0, p, h1, h3 => by omega
  | k + 1, p, h1, h3 => by
    simp only [chantryref01_Ints.l0]
    by_cases hp : p < l.length
    · rw [if_pos (by omega), if_pos (by omega), if_pos (by omega), if_pos True.intro, wrap_up p (by omega), ints_l l hl k (p + 1) (by omega) (by omega)]
    · rw [if_neg (by omega)]
theorem ints_eq (A0 A1 : Option Addr) (c0 c1 n m : Nat) (l : List Int) (w : World) (hn : n = l.length) (hm : m = l.length) (hl : l.length ≤ 4096) (h0 : Kd.C (Kd.int .i64) w A0 l.length l) (hc0 : l.length ≤ c0) (h1 : Kd.C (Kd.int .i64) w A1 l.length l) (hc1 : l.length ≤ c1) :
    Calls Try.prog 20 #[.slice A0 n c0, .slice A1 m c1] w fun e w' => e = .returned (.bool true) ∧ Drawn0 w w' := by
  subst hn hm
  refine chantryref01_Ints.calls 5000 A0 c0 l A1 c1 l true w h0 hc0 h1 hc1 ?_
  unfold chantryref01_Ints.f
  rw [if_pos rfl]
  exact ints_l l hl 5000 0 (by omega) (by omega)
set_option maxHeartbeats 8000000 in
set_option maxRecDepth 100000 in
theorem alike_any {w0 w : World} {pb sb : Nat} {fr : Int} {v : Value} {l : List Bool} (h : Pair w0 w pb sb fr v l) :
    Calls Try.prog 11 #[.pointer (some ⟨pb, 0, none⟩), .agg #[.int .i64 fr, v]] w fun e w' => e = .returned (.bool true) ∧ Below w.heap.size w w' := by
  obtain ⟨AX, cX, rfl, hcX, hCX⟩ := Kd.R_reads h.row
  have hl := h.pool.len
  have hlow := h.pool.low
  have hhigh := h.pool.high
  have HP := Aside0.mk h
  have HC := Aside0.mk hCX
  have hll := gaps_len l
  have HLL := Aside0.mk hll
  clear h hCX hll
  go_enter Try.func11, Try.ntmps11
  go_wp2_with fail
  obtain ⟨W, hW⟩ : ∃ W, W = w.alloc (.cells #[.int .i64 fr, .slice AX l.length cX] 29) := ⟨_, rfl⟩
  have hbox : W.heap[w.heap.size]? = some (.cells #[.int .i64 fr, .slice AX l.length cX] 29 (0, 0)) := by rw [hW]; exact heap_alloc_new w _
  have hWb : Below w.heap.size w W := by rw [hW]; exact (Below.refl _ _).alloc (Nat.le_refl _) _
  rw [← hW]
  have hxl : w.heap.size < W.heap.size := (Array.getElem?_eq_some_iff.1 hbox).1
  have HWB := Aside0.mk hWb
  have HBOX := Aside0.mk hbox
  clear hW hWb hbox
  refine Go.Reg.region (Below W.heap.size W) [.s, .w, .s, .w, .s, .s, .s, .w, .s, .w, .w, .s, .s] (by kernel_rfl) (by kernel_rfl) (below_drew1 (Below.refl _ _)) (fun ne => ?_)
  have hb0 : ∀ m : Go.Reg.In (Below W.heap.size W), m.w.cell? ⟨w.heap.size, 0, none⟩ = some (.int .i64 fr) := fun m => by rw [m.h.cell hxl]; exact cell_blk HBOX.out
  have hb1 : ∀ m : Go.Reg.In (Below W.heap.size W), m.w.cell? ⟨w.heap.size, 1, none⟩ = some (.slice AX l.length cX) := fun m => by rw [m.h.cell hxl]; exact cell_blk HBOX.out
  replace HP := Aside0.mk (HP.out.below (below_drew1 HWB.out))
  replace HC := Aside0.mk (Kd.C_drew (Kd.C_below HC.out HWB.out))
  have HBW := Aside0.mk (below_drew1 (Below.refl W.heap.size W))
  refine Go.Reg.lex_q 1 _ _ _ _ (by rfl) ?_; simp only [List.take_succ_cons, List.take_zero, List.drop_succ_cons, List.drop_zero]; (repeat (go_big_quiet_step (rfl))); refine wpQuiet_nil ?_
  refine Go.Reg.step_w (fun K hK => ?_)
  go_wp2_with fail
  refine (free_any _ HP.out.pool).mono ?_
  rintro e w1 ⟨rfl, b⟩
  replace HBW := Aside0.mk (HBW.out.trans (b.mono HBW.out.size))
  replace HP := Aside0.mk (HP.out.below b)
  replace HC := Aside0.mk (Kd.C_below HC.out b)
  clear b
  go_wp2_with fail
  refine hK.out _ _ HBW.out ?_
  clear hK K
  refine Go.Reg.lex_q 1 _ _ _ _ (by rfl) ?_; simp only [List.take_succ_cons, List.take_zero, List.drop_succ_cons, List.drop_zero]; (repeat (go_big_quiet_step (rfl))); refine wpQuiet_nil ?_
  refine Go.Reg.step_w (fun K hK => ?_)
  go_wp2_with fail
  refine (chantryref11_Free.calls 5000 fr AX cX l _ _ HC.out hcX (pref_free fr l hlow hhigh)).mono ?_
  rintro e w2 ⟨rfl, b⟩
  replace HBW := Aside0.mk (HBW.out.trans (b.mono HBW.out.size))
  replace HP := Aside0.mk (HP.out.below b)
  replace HC := Aside0.mk (Kd.C_below HC.out b)
  clear b
  go_wp2_with fail
  refine hK.out _ _ HBW.out ?_
  clear hK K
  refine Go.Reg.lex_q 3 _ _ _ _ (by rfl) ?_; simp only [List.take_succ_cons, List.take_zero, List.drop_succ_cons, List.drop_zero]; (repeat (go_big_quiet_step (rfl))); refine wpQuiet_nil ?_
  refine Go.Reg.step_w (fun K hK => ?_)
  go_wp2_with fail
  refine (taken_any (w0 := _) _ HP.out.pool (Below.refl _ _)).mono ?_
  rintro e w3 ⟨u3, rfl, hr3, _, b⟩
  obtain ⟨A3, c3, rfl, hc3, hC3⟩ := Kd.R_reads hr3
  have HC3 := Aside0.mk hC3
  replace HBW := Aside0.mk (HBW.out.trans (b.mono HBW.out.size))
  replace HP := Aside0.mk (HP.out.below b)
  replace HC := Aside0.mk (Kd.C_below HC.out b)
  clear b hr3 hC3
  go_wp2_with fail
  refine hK.out _ _ HBW.out ?_
  clear hK K
  refine Go.Reg.lex_q 1 _ _ _ _ (by rfl) ?_; simp only [List.take_succ_cons, List.take_zero, List.drop_succ_cons, List.drop_zero]; (repeat (go_big_quiet_step (rfl))); refine wpQuiet_nil ?_
  refine Go.Reg.step_w (fun K hK => ?_)
  go_wp2_with fail
  refine (chantryref11_List.calls 5000 fr AX cX l _ _ HC.out hcX (pref_taken fr l hlow hhigh)).mono ?_
  rintro e w4 ⟨u4, rfl, hr4, b⟩
  obtain ⟨A4, c4, rfl, hc4, hC4⟩ := Kd.R_reads hr4
  have HC4 := Aside0.mk hC4
  replace HBW := Aside0.mk (HBW.out.trans (b.mono HBW.out.size))
  replace HP := Aside0.mk (HP.out.below b)
  replace HC3 := Aside0.mk (Kd.C_below HC3.out b)
  clear b hr4 hC4
  go_wp2_with fail
  refine hK.out _ _ HBW.out ?_
  clear hK K
  refine Go.Reg.step_w (fun K hK => ?_)
  go_wp2_with fail
  refine (ints_eq _ _ _ _ _ _ ((listL l).map (fr + ·)) _ (by first | rfl | simp) (by first | rfl | simp) (by rw [List.length_map]; have := HLL.out; omega) HC3.out hc3 HC4.out hc4).mono ?_
  rintro e w5 ⟨rfl, ⟨nd, rfl⟩⟩
  replace HBW := Aside0.mk (pw_below_drewN HBW.out nd)
  go_wp2_with fail
  refine hK.out _ _ HBW.out ?_
  clear hK K
  refine Go.Reg.lex_q 2 _ _ _ _ (by rfl) ?_; simp only [List.take_succ_cons, List.take_zero, List.drop_succ_cons, List.drop_zero]; (repeat (go_big_quiet_step (rfl))); refine wpQuiet_nil ?_
  refine Go.Reg.lex_nil ?_
  go_wp2_with fail
  go_ret
  exact ⟨rfl, HWB.out.trans (HBW.out.mono HWB.out.size)⟩
end Bits
end Go.Proofs.Ythmdpmpnlphfdaa
