/- The pool in memory: the document's deeds: what is old stays. -/
import Derived.Test.YthmdpmpnlphfdaaPs
import Derived.Test.YthmdpmpnlphfdaaReg
import Derived.Below
import Derived.Deep.MidRow
import Derived.Deep.WholeRow
import Derived.Great.BuildSlice
import Derived.Lib.Hide
import Derived.OwnWalk
import Derived.WalkKit
import Derived.KernelRfl
import Derived.RowKit3
import Derived.Deep.LoopGhost
import Derived.Deep.QuietTactic
import Derived.BigQuiet
import Derived.WideLaws
import Derived.Outline
import Derived.Deep.DeepCutAuto
import Derived.Deep.CutBlock
import Derived.WalkSpells
import Derived.RegionTactic
import Derived.BigRegion
import Derived.WalkLawsBesides
namespace Go.Proofs.Ythmdpmpnlphfdaa
set_option linter.unusedVariables false
set_option linter.unusedSimpArgs false
open Go.RowKit Go.Proofs.YthmdpmpnlphfdaaW.PrintWords Go.Proofs.YthmdpmpnlphfdaaW.PrintLast Go.Proofs.YthmdpmpnlphfdaaW.PrintMore
namespace Bits
open Go.Bits Go.Pool PPoolDoes
theorem two_set {w : World} {b t : Nat} {x0 x1 : Value} (h : w.heap[b]? = some (.cells #[x0, x1] t (0, 0))) (y0 y1 : Value) :
    ((w.setCell ⟨b, 0, none⟩ y0).setCell ⟨b, 1, none⟩ y1).heap[b]? = some (.cells #[y0, y1] t (0, 0)) ∧ Only b w ((w.setCell ⟨b, 0, none⟩ y0).setCell ⟨b, 1, none⟩ y1) := by
  refine ⟨?_, ⟨rfl, rfl, rfl, by simp [World.setCell], fun k _ hk => ?_⟩⟩
  · have := blk_set (blk_set h 0 y0) 1 y1
    simpa using this
  · rw [Below.heap_setCell _ _ _ _ hk, Below.heap_setCell _ _ _ _ hk]
theorem Only.belowN {b B : Nat} {x y : World} (h : Only b x y) (hb : B ≤ b) (hs : B ≤ x.heap.size) : Below B x y := h.below (Below.refl _ _) hb hs
theorem fresh_row {w w' : World} {base : Nat} {v : Value} {l : List Bool} (h : Kd.R Kd.bool 4 w' w.heap.size (fun _ => True) v l) (hb : base ≤ w.heap.size) : PRow w' base v l :=
  Kd.R_lower (Kd.R_tight rfl h) hb

set_option maxHeartbeats 8000000 in
set_option maxRecDepth 100000 in
theorem rgive {w : World} {base : Nat} {v : Value} {l : List Bool} (fr : Int) (A : Option Addr) (c : Nat) (xs : List Int) (hR : PRow w base v l) (hbase : base ≤ w.heap.size) (h0 : 0 ≤ fr) (h1 : fr + l.length ≤ 1024) (hrow : ∀ W, Below w.heap.size w W → Kd.C (Kd.int .i64) W A xs.length xs) (hc : xs.length ≤ c) (hx : ∀ x ∈ xs, x ≤ 9223372036854775807) (hl : xs.length ≤ 60) :
    Calls Try.prog 22 #[.agg #[.int .i64 fr, v], .slice A xs.length c] w fun e w' => ∃ v', e = .returned (.tuple #[.agg #[.int .i64 fr, v'], .int .i64 (turnAll fr l xs true 6).2]) ∧ PRow w' base v' (turnAll fr l xs true 6).1 ∧ Below w.heap.size w w' := by
  obtain ⟨AX, cX, rfl, hcX, hCX⟩ := Kd.R_reads hR
  have hf := pref_give fr l xs h0 h1 hx hl
  unfold chantryref11_Give.f at hf
  obtain ⟨o, ho⟩ : ∃ o, chantryref11_odd.f 5000 fr l xs true 6 = some o := ⟨_, pref_odd fr l xs true 6 h0 h1 hx hl⟩
  rw [ho, Option.bind_some] at hf
  by_cases hz : o = 0
  · subst hz
    rw [if_pos rfl] at hf
    obtain ⟨r1, r2, hr⟩ : ∃ r1 r2, chantryref11_turned.f 5000 fr l xs false = some (r1, r2) := by
      cases hq : chantryref11_turned.f 5000 fr l xs false with
      | none => rw [hq] at hf; cases hf
      | some r => exact ⟨r.1, r.2, rfl⟩
    rw [hr, Option.bind_some] at hf
    have hf2 := Option.some.inj hf
    have e1 : fr = r1 := (congrArg (fun t => t.1) hf2).symm
    have e2 : r2 = (turnAll fr l xs true 6).1 := congrArg (fun t => t.2.1) hf2
    have e3 : (0 : Int) = (turnAll fr l xs true 6).2 := congrArg (fun t => t.2.2) hf2
    subst e1
    rw [← e2, ← e3]
    clear hf hf2 e2 e3
    have HROW := Aside0.mk hrow
    have HC := Aside0.mk hCX
    have HR := Aside0.mk hR
    clear hrow hCX hR h0 h1 hx hl
    go_enter Try.func22, Try.ntmps22
    go_wp2_with fail
    obtain ⟨W, hW⟩ : ∃ W, W = (w.alloc (.cells #[.int .i64 fr, .slice AX l.length cX] 29)).alloc (.cells #[.int .i64 0, .slice none 0 0] 29) := ⟨_, rfl⟩
    have hWb : Below w.heap.size w W := by rw [hW]; exact ((Below.refl _ _).alloc (Nat.le_refl _) _).alloc (by simp) _
    have hb4 : W.heap[w.heap.size]? = some (.cells #[.int .i64 fr, .slice AX l.length cX] 29 (0, 0)) := by
      rw [hW, heap_alloc_old _ _ (by simp)]
      exact heap_alloc_new w _
    have hb6 : W.heap[w.heap.size + 1]? = some (.cells #[.int .i64 0, .slice none 0 0] 29 (0, 0)) := by
      rw [hW]
      have := heap_alloc_new (w.alloc (.cells #[.int .i64 fr, .slice AX l.length cX] 29)) (.cells #[.int .i64 0, .slice none 0 0] 29)
      simpa using this
    rw [← hW]
    have hBW := hWb
    have HB := Aside0.mk hBW
    have HK4 := Aside0.mk hb4
    have HK6 := Aside0.mk hb6
    clear hW hWb hb4 hb6 hBW
    refine (chantryref11_odd.calls 5000 fr AX cX l A c xs true 6 _ W (Kd.C_below HC.out HB.out) hcX (HROW.out W HB.out) hc ho).mono ?_
    rintro e w1 ⟨rfl, b1⟩
    replace HK4 := Aside0.mk ((b1.block _ (Array.getElem?_eq_some_iff.1 HK4.out).1).trans HK4.out)
    replace HK6 := Aside0.mk ((b1.block _ (Array.getElem?_eq_some_iff.1 HK6.out).1).trans HK6.out)
    replace HB := Aside0.mk (HB.out.trans (b1.mono HB.out.size))
    clear b1 ho
    have c40 : w1.cell? ⟨w.heap.size, 0, none⟩ = some (.int .i64 fr) := cell_blk HK4.out
    have c41 : w1.cell? ⟨w.heap.size, 1, none⟩ = some (.slice AX l.length cX) := cell_blk HK4.out
    have hs1 : w.heap.size + 1 < w1.heap.size := (Array.getElem?_eq_some_iff.1 HK6.out).1
    go_wp2_with fail
    refine (chantryref11_turned.calls 5000 _ AX cX l A c xs false _ _ w1 (Kd.C_below HC.out HB.out) hcX (HROW.out w1 HB.out) hc hr).mono ?_
    rintro e w2 ⟨v', rfl, hr2, b2⟩
    have HR2 := Aside0.mk hr2
    have k6 := (b2.block _ (Array.getElem?_eq_some_iff.1 HK6.out).1).trans HK6.out
    have HB2 := Aside0.mk (HB.out.trans (b2.mono HB.out.size))
    have hs2 := b2.size
    obtain ⟨A2, n2, rfl⟩ := Kd.R_slice hr2
    clear hr2 b2 c40 c41
    have d60 : w2.cell? ⟨w.heap.size + 1, 0, none⟩ = some (.int .i64 0) := cell_blk k6
    have d61 : w2.cell? ⟨w.heap.size + 1, 1, none⟩ = some (.slice none 0 0) := cell_blk k6
    have f60 : w2.frozen? ⟨w.heap.size + 1, 0, none⟩ = false := frozen_blk k6
    have f61 : w2.frozen? ⟨w.heap.size + 1, 1, none⟩ = false := frozen_blk k6
    have K6 := Aside0.mk k6
    clear k6
    go_wp2_with fail
    obtain ⟨s1, s2⟩ := two_set K6.out (.int .i64 fr) (.slice A2 r2.length n2)
    refine bodyPost_ret (results_ct rfl _ _ (w.heap.size + 1) 29 #[.int .i64 fr, .slice A2 r2.length n2] (0, 0) _ rfl s1 Try.underlying29 rfl (by kernel_rfl)) rfl ?_
    have hne : some (w.heap.size + 1) ≠ (Value.slice A2 r2.length n2).ownBlock := Kd.R_ne HR2.out K6.out (by decide)
    exact ⟨_, rfl, Kd.R_step (fresh_row (base := base) HR2.out (by omega)) (fun k hk hlt => s2.block k hlt (fun e => hne (by rw [← e]; exact hk))), HB2.out.trans (s2.belowN (by omega) (by omega))⟩
  · rw [if_neg hz] at hf
    have hf2 := Option.some.inj hf
    have e2 : l = (turnAll fr l xs true 6).1 := congrArg (fun t => t.2.1) hf2
    have e3 : o = (turnAll fr l xs true 6).2 := congrArg (fun t => t.2.2) hf2
    rw [← e2, ← e3]
    clear hf hf2 e2 e3
    have HROW := Aside0.mk hrow
    have HC := Aside0.mk hCX
    have HR := Aside0.mk hR
    clear hrow hCX hR h0 h1 hx hl
    go_enter Try.func22, Try.ntmps22
    go_wp2_with fail
    obtain ⟨W, hW⟩ : ∃ W, W = (w.alloc (.cells #[.int .i64 fr, .slice AX l.length cX] 29)).alloc (.cells #[.int .i64 0, .slice none 0 0] 29) := ⟨_, rfl⟩
    have hWb : Below w.heap.size w W := by rw [hW]; exact ((Below.refl _ _).alloc (Nat.le_refl _) _).alloc (by simp) _
    have hb4 : W.heap[w.heap.size]? = some (.cells #[.int .i64 fr, .slice AX l.length cX] 29 (0, 0)) := by
      rw [hW, heap_alloc_old _ _ (by simp)]
      exact heap_alloc_new w _
    have hb6 : W.heap[w.heap.size + 1]? = some (.cells #[.int .i64 0, .slice none 0 0] 29 (0, 0)) := by
      rw [hW]
      have := heap_alloc_new (w.alloc (.cells #[.int .i64 fr, .slice AX l.length cX] 29)) (.cells #[.int .i64 0, .slice none 0 0] 29)
      simpa using this
    rw [← hW]
    have hBW := hWb
    have HB := Aside0.mk hBW
    have HK4 := Aside0.mk hb4
    have HK6 := Aside0.mk hb6
    clear hW hWb hb4 hb6 hBW
    refine (chantryref11_odd.calls 5000 fr AX cX l A c xs true 6 _ W (Kd.C_below HC.out HB.out) hcX (HROW.out W HB.out) hc ho).mono ?_
    rintro e w1 ⟨rfl, b1⟩
    replace HK4 := Aside0.mk ((b1.block _ (Array.getElem?_eq_some_iff.1 HK4.out).1).trans HK4.out)
    replace HK6 := Aside0.mk ((b1.block _ (Array.getElem?_eq_some_iff.1 HK6.out).1).trans HK6.out)
    replace HB := Aside0.mk (HB.out.trans (b1.mono HB.out.size))
    clear b1 ho
    have c40 : w1.cell? ⟨w.heap.size, 0, none⟩ = some (.int .i64 fr) := cell_blk HK4.out
    have c41 : w1.cell? ⟨w.heap.size, 1, none⟩ = some (.slice AX l.length cX) := cell_blk HK4.out
    have hs1 : w.heap.size + 1 < w1.heap.size := (Array.getElem?_eq_some_iff.1 HK6.out).1
    have d60 : w1.cell? ⟨w.heap.size + 1, 0, none⟩ = some (.int .i64 0) := cell_blk HK6.out
    have d61 : w1.cell? ⟨w.heap.size + 1, 1, none⟩ = some (.slice none 0 0) := cell_blk HK6.out
    have f60 : w1.frozen? ⟨w.heap.size + 1, 0, none⟩ = false := frozen_blk HK6.out
    have f61 : w1.frozen? ⟨w.heap.size + 1, 1, none⟩ = false := frozen_blk HK6.out
    have hzb : (o != 0) = true := by simpa using hz
    go_wp2_with fail
    obtain ⟨s1, s2⟩ := two_set HK6.out (.int .i64 fr) (.slice AX l.length cX)
    refine bodyPost_ret (results_ct rfl _ _ (w.heap.size + 1) 29 #[.int .i64 fr, .slice AX l.length cX] (0, 0) _ rfl s1 Try.underlying29 rfl (by kernel_rfl)) rfl ?_
    have hlt0 := Kd.R_lt HR.out
    refine ⟨_, rfl, Kd.R_step (Kd.R_below HR.out HB.out) (fun k hk hlt => s2.block k hlt (fun e => ?_)), HB.out.trans (s2.belowN (by omega) (by omega))⟩
    have := hlt0 k hk.symm
    omega

set_option maxHeartbeats 8000000 in
set_option maxRecDepth 100000 in
theorem rmark {w : World} {base : Nat} {v : Value} {l : List Bool} (fr : Int) (A : Option Addr) (c : Nat) (xs : List Int) (hR : PRow w base v l) (hbase : base ≤ w.heap.size) (h0 : 0 ≤ fr) (h1 : fr + l.length ≤ 1024) (hrow : ∀ W, Below w.heap.size w W → Kd.C (Kd.int .i64) W A xs.length xs) (hc : xs.length ≤ c) (hx : ∀ x ∈ xs, x ≤ 9223372036854775807) (hl : xs.length ≤ 60) :
    Calls Try.prog 23 #[.agg #[.int .i64 fr, v], .slice A xs.length c] w fun e w' => ∃ v', e = .returned (.tuple #[.agg #[.int .i64 fr, v'], .int .i64 (turnAll fr l xs false 7).2]) ∧ PRow w' base v' (turnAll fr l xs false 7).1 ∧ Below w.heap.size w w' := by
  obtain ⟨AX, cX, rfl, hcX, hCX⟩ := Kd.R_reads hR
  have hf := pref_mark fr l xs h0 h1 hx hl
  unfold chantryref11_Mark.f at hf
  obtain ⟨o, ho⟩ : ∃ o, chantryref11_odd.f 5000 fr l xs false 7 = some o := ⟨_, pref_odd fr l xs false 7 h0 h1 hx hl⟩
  rw [ho, Option.bind_some] at hf
  by_cases hz : o = 0
  · subst hz
    rw [if_pos rfl] at hf
    obtain ⟨r1, r2, hr⟩ : ∃ r1 r2, chantryref11_turned.f 5000 fr l xs true = some (r1, r2) := by
      cases hq : chantryref11_turned.f 5000 fr l xs true with
      | none => rw [hq] at hf; cases hf
      | some r => exact ⟨r.1, r.2, rfl⟩
    rw [hr, Option.bind_some] at hf
    have hf2 := Option.some.inj hf
    have e1 : fr = r1 := (congrArg (fun t => t.1) hf2).symm
    have e2 : r2 = (turnAll fr l xs false 7).1 := congrArg (fun t => t.2.1) hf2
    have e3 : (0 : Int) = (turnAll fr l xs false 7).2 := congrArg (fun t => t.2.2) hf2
    subst e1
    rw [← e2, ← e3]
    clear hf hf2 e2 e3
    have HROW := Aside0.mk hrow
    have HC := Aside0.mk hCX
    have HR := Aside0.mk hR
    clear hrow hCX hR h0 h1 hx hl
    go_enter Try.func23, Try.ntmps23
    go_wp2_with fail
    obtain ⟨W, hW⟩ : ∃ W, W = (w.alloc (.cells #[.int .i64 fr, .slice AX l.length cX] 29)).alloc (.cells #[.int .i64 0, .slice none 0 0] 29) := ⟨_, rfl⟩
    have hWb : Below w.heap.size w W := by rw [hW]; exact ((Below.refl _ _).alloc (Nat.le_refl _) _).alloc (by simp) _
    have hb4 : W.heap[w.heap.size]? = some (.cells #[.int .i64 fr, .slice AX l.length cX] 29 (0, 0)) := by
      rw [hW, heap_alloc_old _ _ (by simp)]
      exact heap_alloc_new w _
    have hb6 : W.heap[w.heap.size + 1]? = some (.cells #[.int .i64 0, .slice none 0 0] 29 (0, 0)) := by
      rw [hW]
      have := heap_alloc_new (w.alloc (.cells #[.int .i64 fr, .slice AX l.length cX] 29)) (.cells #[.int .i64 0, .slice none 0 0] 29)
      simpa using this
    rw [← hW]
    have hBW := hWb
    have HB := Aside0.mk hBW
    have HK4 := Aside0.mk hb4
    have HK6 := Aside0.mk hb6
    clear hW hWb hb4 hb6 hBW
    refine (chantryref11_odd.calls 5000 fr AX cX l A c xs false 7 _ W (Kd.C_below HC.out HB.out) hcX (HROW.out W HB.out) hc ho).mono ?_
    rintro e w1 ⟨rfl, b1⟩
    replace HK4 := Aside0.mk ((b1.block _ (Array.getElem?_eq_some_iff.1 HK4.out).1).trans HK4.out)
    replace HK6 := Aside0.mk ((b1.block _ (Array.getElem?_eq_some_iff.1 HK6.out).1).trans HK6.out)
    replace HB := Aside0.mk (HB.out.trans (b1.mono HB.out.size))
    clear b1 ho
    have c40 : w1.cell? ⟨w.heap.size, 0, none⟩ = some (.int .i64 fr) := cell_blk HK4.out
    have c41 : w1.cell? ⟨w.heap.size, 1, none⟩ = some (.slice AX l.length cX) := cell_blk HK4.out
    have hs1 : w.heap.size + 1 < w1.heap.size := (Array.getElem?_eq_some_iff.1 HK6.out).1
    go_wp2_with fail
    refine (chantryref11_turned.calls 5000 _ AX cX l A c xs true _ _ w1 (Kd.C_below HC.out HB.out) hcX (HROW.out w1 HB.out) hc hr).mono ?_
    rintro e w2 ⟨v', rfl, hr2, b2⟩
    have HR2 := Aside0.mk hr2
    have k6 := (b2.block _ (Array.getElem?_eq_some_iff.1 HK6.out).1).trans HK6.out
    have HB2 := Aside0.mk (HB.out.trans (b2.mono HB.out.size))
    have hs2 := b2.size
    obtain ⟨A2, n2, rfl⟩ := Kd.R_slice hr2
    clear hr2 b2 c40 c41
    have d60 : w2.cell? ⟨w.heap.size + 1, 0, none⟩ = some (.int .i64 0) := cell_blk k6
    have d61 : w2.cell? ⟨w.heap.size + 1, 1, none⟩ = some (.slice none 0 0) := cell_blk k6
    have f60 : w2.frozen? ⟨w.heap.size + 1, 0, none⟩ = false := frozen_blk k6
    have f61 : w2.frozen? ⟨w.heap.size + 1, 1, none⟩ = false := frozen_blk k6
    have K6 := Aside0.mk k6
    clear k6
    go_wp2_with fail
    obtain ⟨s1, s2⟩ := two_set K6.out (.int .i64 fr) (.slice A2 r2.length n2)
    refine bodyPost_ret (results_ct rfl _ _ (w.heap.size + 1) 29 #[.int .i64 fr, .slice A2 r2.length n2] (0, 0) _ rfl s1 Try.underlying29 rfl (by kernel_rfl)) rfl ?_
    have hne : some (w.heap.size + 1) ≠ (Value.slice A2 r2.length n2).ownBlock := Kd.R_ne HR2.out K6.out (by decide)
    exact ⟨_, rfl, Kd.R_step (fresh_row (base := base) HR2.out (by omega)) (fun k hk hlt => s2.block k hlt (fun e => hne (by rw [← e]; exact hk))), HB2.out.trans (s2.belowN (by omega) (by omega))⟩
  · rw [if_neg hz] at hf
    have hf2 := Option.some.inj hf
    have e2 : l = (turnAll fr l xs false 7).1 := congrArg (fun t => t.2.1) hf2
    have e3 : o = (turnAll fr l xs false 7).2 := congrArg (fun t => t.2.2) hf2
    rw [← e2, ← e3]
    clear hf hf2 e2 e3
    have HROW := Aside0.mk hrow
    have HC := Aside0.mk hCX
    have HR := Aside0.mk hR
    clear hrow hCX hR h0 h1 hx hl
    go_enter Try.func23, Try.ntmps23
    go_wp2_with fail
    obtain ⟨W, hW⟩ : ∃ W, W = (w.alloc (.cells #[.int .i64 fr, .slice AX l.length cX] 29)).alloc (.cells #[.int .i64 0, .slice none 0 0] 29) := ⟨_, rfl⟩
    have hWb : Below w.heap.size w W := by rw [hW]; exact ((Below.refl _ _).alloc (Nat.le_refl _) _).alloc (by simp) _
    have hb4 : W.heap[w.heap.size]? = some (.cells #[.int .i64 fr, .slice AX l.length cX] 29 (0, 0)) := by
      rw [hW, heap_alloc_old _ _ (by simp)]
      exact heap_alloc_new w _
    have hb6 : W.heap[w.heap.size + 1]? = some (.cells #[.int .i64 0, .slice none 0 0] 29 (0, 0)) := by
      rw [hW]
      have := heap_alloc_new (w.alloc (.cells #[.int .i64 fr, .slice AX l.length cX] 29)) (.cells #[.int .i64 0, .slice none 0 0] 29)
      simpa using this
    rw [← hW]
    have hBW := hWb
    have HB := Aside0.mk hBW
    have HK4 := Aside0.mk hb4
    have HK6 := Aside0.mk hb6
    clear hW hWb hb4 hb6 hBW
    refine (chantryref11_odd.calls 5000 fr AX cX l A c xs false 7 _ W (Kd.C_below HC.out HB.out) hcX (HROW.out W HB.out) hc ho).mono ?_
    rintro e w1 ⟨rfl, b1⟩
    replace HK4 := Aside0.mk ((b1.block _ (Array.getElem?_eq_some_iff.1 HK4.out).1).trans HK4.out)
    replace HK6 := Aside0.mk ((b1.block _ (Array.getElem?_eq_some_iff.1 HK6.out).1).trans HK6.out)
    replace HB := Aside0.mk (HB.out.trans (b1.mono HB.out.size))
    clear b1 ho
    have c40 : w1.cell? ⟨w.heap.size, 0, none⟩ = some (.int .i64 fr) := cell_blk HK4.out
    have c41 : w1.cell? ⟨w.heap.size, 1, none⟩ = some (.slice AX l.length cX) := cell_blk HK4.out
    have hs1 : w.heap.size + 1 < w1.heap.size := (Array.getElem?_eq_some_iff.1 HK6.out).1
    have d60 : w1.cell? ⟨w.heap.size + 1, 0, none⟩ = some (.int .i64 0) := cell_blk HK6.out
    have d61 : w1.cell? ⟨w.heap.size + 1, 1, none⟩ = some (.slice none 0 0) := cell_blk HK6.out
    have f60 : w1.frozen? ⟨w.heap.size + 1, 0, none⟩ = false := frozen_blk HK6.out
    have f61 : w1.frozen? ⟨w.heap.size + 1, 1, none⟩ = false := frozen_blk HK6.out
    have hzb : (o != 0) = true := by simpa using hz
    go_wp2_with fail
    obtain ⟨s1, s2⟩ := two_set HK6.out (.int .i64 fr) (.slice AX l.length cX)
    refine bodyPost_ret (results_ct rfl _ _ (w.heap.size + 1) 29 #[.int .i64 fr, .slice AX l.length cX] (0, 0) _ rfl s1 Try.underlying29 rfl (by kernel_rfl)) rfl ?_
    have hlt0 := Kd.R_lt HR.out
    refine ⟨_, rfl, Kd.R_step (Kd.R_below HR.out HB.out) (fun k hk hlt => s2.block k hlt (fun e => ?_)), HB.out.trans (s2.belowN (by omega) (by omega))⟩
    have := hlt0 k hk.symm
    omega

theorem C_take {α : Type} {d : Kd α} {w : World} {A : Option Addr} {xs : List α} (n : Nat) (h : d.C w A xs.length xs) : d.C w A (xs.take n).length (xs.take n) := by
  obtain ⟨h1, h2, h3⟩ := h
  refine ⟨rfl, ?_, fun hn => ?_⟩
  · have : (xs.take n).length ≤ xs.length := by rw [List.length_take]; omega
    omega
  · have hl : 0 < xs.length := by rw [List.length_take] at hn; omega
    obtain ⟨ad, e, hx⟩ := h3 hl
    refine ⟨ad, e, fun j x hj => hx j x ?_⟩
    rw [List.getElem?_take] at hj
    split at hj
    · exact hj
    · cases hj
set_option maxHeartbeats 8000000 in
set_option maxRecDepth 100000 in
theorem rtake {w : World} {base : Nat} {v : Value} {l : List Bool} (fr : Int) (n : Int) (hR : PRow w base v l) (hbase : base ≤ w.heap.size) (h0 : 0 ≤ fr) (h1 : fr + l.length ≤ 1024) :
    Calls Try.prog 21 #[.agg #[.int .i64 fr, v], .int .i64 n] w fun e w' => ∃ v' A c, e = .returned (.tuple #[.agg #[.int .i64 fr, v'], .slice A (takeAll fr l n).2.1.length c, .int .i64 (takeAll fr l n).2.2]) ∧ PRow w' base v' (takeAll fr l n).1 ∧ (∀ x : World, (∀ k, w.heap.size ≤ k → k < w'.heap.size → x.heap[k]? = w'.heap[k]?) → Kd.C (Kd.int .i64) x A (takeAll fr l n).2.1.length (takeAll fr l n).2.1) ∧ (takeAll fr l n).2.1.length ≤ c ∧ Below w.heap.size w w' := by
  obtain ⟨AX, cX, rfl, hcX, hCX⟩ := Kd.R_reads hR
  have hf := pref_take fr l n h0 h1
  have hpl := pref_list fr l false h0 h1
  unfold chantryref11_Take.f at hf
  have HC := Aside0.mk hCX
  have HR := Aside0.mk hR
  have HL := Aside0.mk hpl
  have HLL := Aside0.mk (gaps_len l)
  have hll : l.length ≤ 1024 := by omega
  clear hCX hR h0 h1
  by_cases hn : n < 0
  · rw [if_pos hn] at hf
    have hf2 := Option.some.inj hf
    have e2 : (takeAll fr l n).1 = l := (congrArg (fun t => t.2.1) hf2).symm
    have e3 : (takeAll fr l n).2.1 = [] := (congrArg (fun t => t.2.2.1) hf2).symm
    have e4 : (takeAll fr l n).2.2 = 1 := (congrArg (fun t => t.2.2.2) hf2).symm
    rw [e2, e3, e4]
    clear hf hf2 e2 e3 e4 hpl
    go_enter Try.func21, Try.ntmps21
    go_wp2_with fail
    have hb := heap_alloc_new (w.alloc (.cells #[.int .i64 fr, .slice AX l.length cX] 29)) (.cells #[.int .i64 fr, .slice AX l.length cX] 29)
    have hW : Below w.heap.size w ((w.alloc (.cells #[.int .i64 fr, .slice AX l.length cX] 29)).alloc (.cells #[.int .i64 fr, .slice AX l.length cX] 29)) := ((Below.refl _ _).alloc (Nat.le_refl _) _).alloc (by simp) _
    refine bodyPost_ret (results_ctt rfl _ _ (w.heap.size + 1) 29 #[.int .i64 fr, .slice AX l.length cX] (0, 0) _ rfl (by simpa using hb) Try.underlying29 rfl (by kernel_rfl)) rfl ?_
    exact ⟨_, _, _, rfl, Kd.R_below HR.out hW, fun _ _ => Kd.C_nil _ _, Nat.zero_le _, hW⟩
  · rw [if_neg hn, hpl, Option.bind_some] at hf
    have hln : (((listAt l false 0).map (fr + ·)).length : Int) = (gaps l).length := by simp [gaps]
    have HT := Aside0.mk (show ∃ t : List Int, t = (listAt l false 0).map (fr + ·) from ⟨_, rfl⟩)
    obtain ⟨t, ht⟩ := HT.out
    rw [← ht] at hf hln hpl
    have HL2 := Aside0.mk hpl
    have htl : t.length ≤ 1024 := by have := HLL.out; omega
    clear HL HT hpl ht
    by_cases hm : (t.length : Int) < n
    · rw [if_pos hm] at hf
      have hf2 := Option.some.inj hf
      have e2 : (takeAll fr l n).1 = l := (congrArg (fun t => t.2.1) hf2).symm
      have e3 : (takeAll fr l n).2.1 = [] := (congrArg (fun t => t.2.2.1) hf2).symm
      have e4 : (takeAll fr l n).2.2 = 2 := (congrArg (fun t => t.2.2.2) hf2).symm
      rw [e2, e3, e4]
      clear hf hf2 e2 e3 e4
      go_enter Try.func21, Try.ntmps21
      go_wp2_with fail
      obtain ⟨W, hW⟩ : ∃ W, W = (w.alloc (.cells #[.int .i64 fr, .slice AX l.length cX] 29)).alloc (.cells #[.int .i64 0, .slice none 0 0] 29) := ⟨_, rfl⟩
      have hWb : Below w.heap.size w W := by rw [hW]; exact ((Below.refl _ _).alloc (Nat.le_refl _) _).alloc (by simp) _
      have hb4 : W.heap[w.heap.size]? = some (.cells #[.int .i64 fr, .slice AX l.length cX] 29 (0, 0)) := by
        rw [hW, heap_alloc_old _ _ (by simp)]
        exact heap_alloc_new w _
      have hb6 : W.heap[w.heap.size + 1]? = some (.cells #[.int .i64 0, .slice none 0 0] 29 (0, 0)) := by
        rw [hW]
        have := heap_alloc_new (w.alloc (.cells #[.int .i64 fr, .slice AX l.length cX] 29)) (.cells #[.int .i64 0, .slice none 0 0] 29)
        simpa using this
      rw [← hW]
      have hBW := hWb
      have HB := Aside0.mk hBW
      have HK4 := Aside0.mk hb4
      have HK6 := Aside0.mk hb6
      clear hW hWb hb4 hb6 hBW
      have hsW : w.heap.size + 1 < W.heap.size := (Array.getElem?_eq_some_iff.1 HK6.out).1
      refine (chantryref11_list.calls 5000 fr AX cX l false t W (Kd.C_below HC.out HB.out) hcX HL2.out).mono ?_
      rintro e w1 ⟨u, rfl, hu, b1⟩
      replace HK4 := Aside0.mk ((b1.block _ (Array.getElem?_eq_some_iff.1 HK4.out).1).trans HK4.out)
      replace HK6 := Aside0.mk ((b1.block _ (Array.getElem?_eq_some_iff.1 HK6.out).1).trans HK6.out)
      replace HB := Aside0.mk (HB.out.trans (b1.mono HB.out.size))
      obtain ⟨A1, n1, rfl, hn1, hC1⟩ := Kd.R_reads hu
      clear b1 hu hC1
      have c40 : w1.cell? ⟨w.heap.size, 0, none⟩ = some (.int .i64 fr) := cell_blk HK4.out
      have c41 : w1.cell? ⟨w.heap.size, 1, none⟩ = some (.slice AX l.length cX) := cell_blk HK4.out
      have d60 : w1.cell? ⟨w.heap.size + 1, 0, none⟩ = some (.int .i64 0) := cell_blk HK6.out
      have d61 : w1.cell? ⟨w.heap.size + 1, 1, none⟩ = some (.slice none 0 0) := cell_blk HK6.out
      have f60 : w1.frozen? ⟨w.heap.size + 1, 0, none⟩ = false := frozen_blk HK6.out
      have f61 : w1.frozen? ⟨w.heap.size + 1, 1, none⟩ = false := frozen_blk HK6.out
      have hs1 : w.heap.size + 1 < w1.heap.size := (Array.getElem?_eq_some_iff.1 HK6.out).1
      go_wp2_with fail
      obtain ⟨s1, s2⟩ := two_set HK6.out (.int .i64 fr) (.slice AX l.length cX)
      refine bodyPost_ret (results_ctt rfl _ _ (w.heap.size + 1) 29 #[.int .i64 fr, .slice AX l.length cX] (0, 0) _ rfl s1 Try.underlying29 rfl (by kernel_rfl)) rfl ?_
      have hlt0 := Kd.R_lt HR.out
      refine ⟨_, _, _, rfl, Kd.R_step (Kd.R_below HR.out HB.out) (fun k hk hlt => s2.block k hlt (fun e => ?_)), fun _ _ => Kd.C_nil _ _, Nat.zero_le _, HB.out.trans (s2.belowN (by omega) (by omega))⟩
      have := hlt0 k hk.symm
      omega
    · rw [if_neg hm, if_pos (by omega), if_pos (by omega)] at hf
      obtain ⟨r1, r2, hr⟩ : ∃ r1 r2, chantryref11_turned.f 5000 fr l (t.take n.toNat) true = some (r1, r2) := by
        cases hq : chantryref11_turned.f 5000 fr l (t.take n.toNat) true with
        | none => rw [hq] at hf; cases hf
        | some r => exact ⟨r.1, r.2, rfl⟩
      rw [hr, Option.bind_some] at hf
      have hf2 := Option.some.inj hf
      have e1 : fr = r1 := (congrArg (fun t => t.1) hf2).symm
      have e2 : (takeAll fr l n).1 = r2 := (congrArg (fun t => t.2.1) hf2).symm
      have e3 : (takeAll fr l n).2.1 = t.take n.toNat := (congrArg (fun t => t.2.2.1) hf2).symm
      have e4 : (takeAll fr l n).2.2 = 0 := (congrArg (fun t => t.2.2.2) hf2).symm
      rw [e2, e3, e4]
      subst e1
      clear hf hf2 e2 e3 e4
      go_enter Try.func21, Try.ntmps21
      go_wp2_with fail
      obtain ⟨W, hW⟩ : ∃ W, W = (w.alloc (.cells #[.int .i64 fr, .slice AX l.length cX] 29)).alloc (.cells #[.int .i64 0, .slice none 0 0] 29) := ⟨_, rfl⟩
      have hWb : Below w.heap.size w W := by rw [hW]; exact ((Below.refl _ _).alloc (Nat.le_refl _) _).alloc (by simp) _
      have hb4 : W.heap[w.heap.size]? = some (.cells #[.int .i64 fr, .slice AX l.length cX] 29 (0, 0)) := by
        rw [hW, heap_alloc_old _ _ (by simp)]
        exact heap_alloc_new w _
      have hb6 : W.heap[w.heap.size + 1]? = some (.cells #[.int .i64 0, .slice none 0 0] 29 (0, 0)) := by
        rw [hW]
        have := heap_alloc_new (w.alloc (.cells #[.int .i64 fr, .slice AX l.length cX] 29)) (.cells #[.int .i64 0, .slice none 0 0] 29)
        simpa using this
      rw [← hW]
      have hBW := hWb
      have HB := Aside0.mk hBW
      have HK4 := Aside0.mk hb4
      have HK6 := Aside0.mk hb6
      clear hW hWb hb4 hb6 hBW
      have hsW : w.heap.size + 1 < W.heap.size := (Array.getElem?_eq_some_iff.1 HK6.out).1
      refine (chantryref11_list.calls 5000 fr AX cX l false t W (Kd.C_below HC.out HB.out) hcX HL2.out).mono ?_
      rintro e w1 ⟨u, rfl, hu, b1⟩
      replace HK4 := Aside0.mk ((b1.block _ (Array.getElem?_eq_some_iff.1 HK4.out).1).trans HK4.out)
      replace HK6 := Aside0.mk ((b1.block _ (Array.getElem?_eq_some_iff.1 HK6.out).1).trans HK6.out)
      replace HB := Aside0.mk (HB.out.trans (b1.mono HB.out.size))
      obtain ⟨A1, n1, rfl, hn1, hC1⟩ := Kd.R_reads hu
      have HC1 := Aside0.mk (C_take n.toNat hC1)
      have HU := Aside0.mk hu
      clear b1 hu hC1
      have HN := Aside0.mk (show (t.take n.toNat).length = n.toNat by rw [List.length_take]; omega)
      obtain ⟨m, rfl⟩ : ∃ m : Nat, n = m := ⟨n.toNat, by omega⟩
      have hmt : m ≤ t.length := by omega
      have hmn : m ≤ n1 := by omega
      have h0m : (0 : Int) ≤ (m : Int) := by omega
      have hmnI : (m : Int) ≤ (n1 : Int) := by omega
      go_wp2_with fail
      refine Go.Reg.region (Below w1.heap.size w1) [.s, .p, .p, .p, .w, .p, .p, .p, .x, .p, .p] (by kernel_rfl) (by kernel_rfl) (below_drew1 (Below.refl _ _)) (fun ne => ?_)
      have hxl : w.heap.size < w1.heap.size := (Array.getElem?_eq_some_iff.1 HK4.out).1
      have hb0 : ∀ m : Go.Reg.In (Below w1.heap.size w1), m.w.cell? ⟨w.heap.size, 0, none⟩ = some (.int .i64 fr) := fun m => by rw [m.h.cell hxl]; exact cell_blk HK4.out
      have hb1 : ∀ m : Go.Reg.In (Below w1.heap.size w1), m.w.cell? ⟨w.heap.size, 1, none⟩ = some (.slice AX l.length cX) := fun m => by rw [m.h.cell hxl]; exact cell_blk HK4.out
      refine Go.Reg.lex_q 1 _ _ _ _ (by rfl) ?_; simp only [List.take_succ_cons, List.take_zero, List.drop_succ_cons, List.drop_zero]; (repeat (go_big_quiet_step (rfl))); refine wpQuiet_nil ?_
      refine Go.Reg.lex_qp 3 _ _ _ _ _ (by rfl) ?_; simp only [List.take_succ_cons, List.take_zero, List.drop_succ_cons, List.drop_zero]; (repeat (go_big_quiet_step (rfl))); refine wpQuiet_nil ?_
      have hTC := chantryref11_turned.calls 5000 fr AX cX l A1 n1 (t.take (m : Int).toNat) true fr r2 w1.drew (Kd.C_drew (Kd.C_below HC.out HB.out)) hcX (Kd.C_drew HC1.out) (by have := HN.out; omega) hr
      rw [show (t.take (m : Int).toNat).length = m from by have := HN.out; omega] at hTC
      have HTC := Aside0.mk hTC
      clear hTC
      refine Go.Reg.step_w (fun K hK => ?_)
      go_wp2_with fail
      refine HTC.out.mono ?_
      rintro e w2 ⟨v', rfl, hr2, b2⟩
      have HR2 := Aside0.mk hr2
      have HB2 := Aside0.mk ((below_drew1 (Below.refl w1.heap.size w1)).trans b2)
      have k6 := (b2.block _ (Array.getElem?_eq_some_iff.1 HK6.out).1).trans HK6.out
      obtain ⟨A2, n2, rfl⟩ := Kd.R_slice hr2
      have hs2 := b2.size
      clear hr2 b2 HTC
      go_wp2_with fail
      refine hK.out _ _ HB2.out ?_
      clear hK K
      refine Go.Reg.lex_qp 3 _ _ _ _ _ (by rfl) ?_; simp only [List.take_succ_cons, List.take_zero, List.drop_succ_cons, List.drop_zero]; (repeat (go_big_quiet_step (rfl))); refine wpQuiet_nil ?_
      have hs1 : w.heap.size + 1 < w1.heap.size := (Array.getElem?_eq_some_iff.1 HK6.out).1
      have d60 : w2.cell? ⟨w.heap.size + 1, 0, none⟩ = some (.int .i64 0) := cell_blk k6
      have d61 : w2.cell? ⟨w.heap.size + 1, 1, none⟩ = some (.slice none 0 0) := cell_blk k6
      have f60 : w2.frozen? ⟨w.heap.size + 1, 0, none⟩ = false := frozen_blk k6
      have f61 : w2.frozen? ⟨w.heap.size + 1, 1, none⟩ = false := frozen_blk k6
      have K6 := Aside0.mk k6
      clear k6
      refine Go.Reg.step_x (by rfl) (fun K hK => ?_)
      go_wp2_with fail
      obtain ⟨W3, hW3⟩ : ∃ W3, W3 = (w2.setCell ⟨w.heap.size + 1, 0, none⟩ (.int .i64 fr)).setCell ⟨w.heap.size + 1, 1, none⟩ (.slice A2 r2.length n2) := ⟨_, rfl⟩
      rw [← hW3]
      have H3 := Aside0.mk hW3
      clear hW3
      refine hK.out _ _ ?_
      clear hK K
      refine Go.Reg.lex_qp 2 _ _ _ _ _ (by rfl) ?_; simp only [List.take_succ_cons, List.take_zero, List.drop_succ_cons, List.drop_zero]; (repeat (go_big_quiet_step (rfl))); refine wpQuiet_nil ?_
      refine Go.Reg.lex_nil ?_
      go_wp2_with fail
      obtain ⟨s1, s2⟩ := two_set K6.out (.int .i64 fr) (.slice A2 r2.length n2)
      have h3 := H3.out
      rw [← h3] at s1 s2
      refine bodyPost_ret (results_ctt rfl _ _ (w.heap.size + 1) 29 #[.int .i64 fr, .slice A2 r2.length n2] (0, 0) _ rfl s1 Try.underlying29 rfl (by kernel_rfl)) rfl ?_
      have hne : some (w.heap.size + 1) ≠ (Value.slice A2 r2.length n2).ownBlock := Kd.R_ne HR2.out K6.out (by decide)
      have hst : w1.heap.size ≤ w2.heap.size := hs2
      have hR3 := Kd.R_step (Kd.R_bound (Kd.R_below HU.out HB2.out)) (fun k hk hlt => s2.block k hlt (by have := hk.2.1; omega))
      refine ⟨_, A1, n1, by rw [HN.out]; rfl, Kd.R_step (fresh_row (base := base) HR2.out (by show base ≤ w1.heap.size; omega)) (fun k hk hlt => s2.block k hlt (fun e => hne (by rw [← e]; exact hk))), fun x hx => C_take _ (Kd.R_reads' (Kd.R_step hR3 (fun k hk hlt => hx k (by have := hk.2.1; omega) hlt))).2.2, by have := HN.out; omega, (HB.out.trans (HB2.out.mono HB.out.size)).trans (s2.belowN (by omega) (by omega))⟩
end Bits
end Go.Proofs.Ythmdpmpnlphfdaa
