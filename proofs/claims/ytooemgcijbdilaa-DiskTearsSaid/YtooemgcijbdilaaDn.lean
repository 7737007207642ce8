/- The disk in memory: a block as it was written last. -/
import Derived.RangeFuncNested
import Derived.RangeFuncBound
import Derived.RangeFuncCalls
import Derived.RangeFuncLeaves
import Derived.Shelf.Abstract
import Derived.Shelf.RegionOpen
import Derived.WalkKit
import Derived.OwnWalkIn
import Derived.TacticsInMore
import Derived.LoopNIn
import Derived.LoopIn
import Derived.Test.YtooemgcijbdilaaDr
import Derived.Test.YtooemgcijbdilaaDy
namespace Go.Proofs.Ytooemgcijbdilaa
set_option linter.unusedVariables false
set_option linter.unusedSimpArgs false
open Go.RowKit Go.Shelf Go.Proofs.YtooemgcijbdilaaW.PrintWords Go.Proofs.YtooemgcijbdilaaW.PrintLast Go.Proofs.YtooemgcijbdilaaW.PrintMore
attribute [local go_sem] Oper.semAt_some
namespace Disk
open Go.Disk
theorem cells_kept {W W' : World} {row : Option Nat} {B t : Nat} {cs : Array Value} (h : W.heap[B]? = some (.cells cs t (0, 0))) (hg : W.grownBy W' row) (hr : ∀ r, row = some r → ∃ o : Obj, W.heap[r]? = some o ∧ o.isCells = false) : W'.heap[B]? = some (.cells cs t (0, 0)) :=
  (hg.block B (blk_lt h) (fun e => by obtain ⟨o, ho, hc⟩ := hr B e.symm; rw [h] at ho; cases ho; cases hc)).trans h
set_option maxRecDepth 100000 in
set_option maxHeartbeats 4000000 in
theorem now_v {w : World} {base db sb : Nat} {D : Dk} {vw : Value} {cs : Nat} {sp : List Value} (h : PDx w base db sb D vw cs sp) (N : Nat) (hN : N < D.safe.length) (E : Nat → Ent) (hE : ∀ j, (E j).i = j) (len : Nat) (hreach : len ≤ 1000000000) (hI : Ents w.heap.size w vw len E) :
    Calls Try.prog 36 #[.pointer (some ⟨db, 0, none⟩), .int .i64 N] w fun e W' =>
      ((∃ j, j < len ∧ (E j).n = N ∧ (∀ i, j < i → i < len → (E i).n ≠ N) ∧ e = .returned (E j).v) ∨ ((∀ j, j < len → (E j).n ≠ N) ∧ e = .returned (.slice (some ⟨sb, N * 256, none⟩) 256 256))) ∧ Below w.heap.size w W' := by
  refine (callsIn_wide (n := 4)).1 ?_
  obtain ⟨A, L, C, hvw⟩ : ∃ A L C, vw = .slice A L C := by
    rcases hI with ⟨rfl, _⟩ | ⟨b, cap, rfl, _⟩
    · exact ⟨_, _, _, rfl⟩
    · exact ⟨_, _, _, rfl⟩
  subst hvw
  have HX := Aside0.mk h
  have c1 : w.cell? ⟨db, 1, none⟩ = some (.slice A L C) := cell_blk h.cells
  have hdb : db < w.heap.size := blk_lt h.cells
  have hro : Fence.wide.round = none := rfl
  have hf1 : Fence.wide.fn 51 := trivial
  have hf2 : Fence.wide.fn 58 := trivial
  have h1 : 1 ≤ 4 := by omega
  clear h
  refine callsIn_of_wp_marks Try.func36 rfl trivial ?_ hro
  simp only [Try.ntmps36, List.size_toArray, List.length_cons, List.length_nil, Nat.reduceAdd, Nat.reduceSub, Array.replicate_succ, Array.replicate_zero, List.push_toArray, List.append_toArray, List.nil_append, List.cons_append]
  gi_wp2_with (gi_at_call 51; refine (back_in Fence.wide _ trivial hro _ _ _ _).mono ?_; rintro e w' ⟨rfl, rfl⟩)
  have bN := Boxed.new w 3 (.int .i64 N)
  have bR := Boxed.new (w.alloc (.cells #[.int .i64 N] 3)) 30 (.slice none 0 0)
  have bS := Boxed.new ((w.alloc (.cells #[.int .i64 N] 3)).alloc (.cells #[.slice none 0 0] 30)) 66 (.slice A L C)
  rw [World.size_alloc] at bR
  rw [World.size_alloc, World.size_alloc] at bS
  obtain ⟨W0, hW0⟩ : ∃ W0, W0 = ((w.alloc (.cells #[.int .i64 N] 3)).alloc (.cells #[.slice none 0 0] 30)).alloc (.cells #[.slice A L C] 66) := ⟨_, rfl⟩
  have hs0 : W0.heap.size = w.heap.size + 1 + 1 + 1 := by rw [hW0]; simp
  have hB0 : Below w.heap.size w W0 := by rw [hW0]; exact (((Below.refl _ w).alloc (Nat.le_refl _) _).alloc (by simp) _).alloc (by simp; omega) _
  replace bN := (bN.alloc (.cells #[.slice none 0 0] 30)).alloc (.cells #[.slice A L C] 66)
  replace bR := bR.alloc (.cells #[.slice A L C] 66)
  rw [← hW0] at bN bR bS
  rw [← hW0]
  clear hW0
  refine wpIn_rangeFunc_ownH hro h1 (gf := 58) (lb := #[.pointer (some ⟨w.heap.size + 1 + 1, 0, none⟩)]) rfl hf2 (enters_of Try.func58 (by kernel_rfl) rfl)
    (back_stops Fence.wide 3 hf2 hro (by omega) (w.heap.size + 1 + 1) (w.heap.size + 1 + 1 + 1) len _ E hE hreach W0 (by omega) (by omega) bS.cell ?ents) belowK_t (belowK_b (by omega)) (Below.refl _ _) (fun _ => rfl)
    (fun (pre : List Ent) W => ((∀ y ∈ pre, y.n ≠ N) ∧ Boxed W w.heap.size 3 (.int .i64 N) ∧ Boxed W (w.heap.size + 1) 30 (.slice none 0 0) ∧ W0.heap.size ≤ W.heap.size) ∧ Below w.heap.size w W)
    (fun c pre W => (c = .ret ∧ ∃ (ini : List Ent) (last : Ent), pre = ini ++ [last] ∧ (∀ y ∈ ini, y.n ≠ N) ∧ last.n = N ∧ Boxed W (w.heap.size + 1) 30 last.v) ∧ Below w.heap.size w W)
    ?hI ?hIx ⟨⟨by simp, bN, bR, Nat.le_refl _⟩, hB0⟩
    (fun x a' W => ∃ Bx, w.heap.size + 1 + 1 < Bx ∧ Bx < W.heap.size ∧ W.heap[Bx]? = some (.cells #[.int .i64 x.n, x.v] 77 (0, 0)) ∧ a' = { tmps := #[.pointer (some ⟨db, 0, none⟩), .int .i64 N, undef, .pointer (some ⟨w.heap.size, 0, none⟩), .pointer (some ⟨w.heap.size + 1, 0, none⟩), undef, .pointer (some ⟨Bx, 0, none⟩), .pointer (some ⟨db, 0, none⟩), .pointer (some ⟨db, 0, none⟩), .pointer (some ⟨db, 1, none⟩), .slice A L C, .func (.func 58) #[] #[.pointer (some ⟨w.heap.size + 1 + 1, 0, none⟩)], .int .i64 (x.i : Int), .agg #[.int .i64 x.n, x.v], undef, undef, undef, undef, undef, undef, undef, undef, undef, undef, undef, undef], defers := [] })
    ?hAx ?assign ?body ?done ?stop
  case ents =>
    have h2 : Ents w.heap.size W0 (.slice A L C) len E := hI.below hB0
    rcases h2 with h2 | ⟨b, cap, h3, h4, h5⟩
    · exact .inl h2
    · exact .inr ⟨b, cap, h3, by omega, h5⟩
  case hI => exact OwnFrom.and (Own.from (fun s X Y row hs hg hr => ⟨hs.1, cells_kept hs.2.1 hg hr, cells_kept hs.2.2.1 hg hr, Nat.le_trans hs.2.2.2 hg.size⟩) _) (ownFrom_below (Nat.le_refl _) (by omega))
  case hIx => exact fun c => OwnFrom.and (Own.from (fun s X Y row hs hg hr => by obtain ⟨hc, ini, last, e1, e2, e3, e4⟩ := hs; exact ⟨hc, ini, last, e1, e2, e3, cells_kept e4 hg hr⟩) _) (ownFrom_below (Nat.le_refl _) (by omega))
  case hAx => exact fun x a' _ X Y row hs hg hr => by obtain ⟨Bx, h1, h2, h3, h4⟩ := hs; exact ⟨Bx, h1, Nat.lt_of_lt_of_le h2 hg.size, cells_kept h3 hg (fun r e => (hr r e).2), h4⟩
  case assign =>
    rintro l pre x W K ⟨⟨hp, b1, b2, hsz⟩, hB⟩ hK
    gi_wp2
    exact hK _ _ ((KeepsOthers.alloc _ _).from _) ((Below.refl _ W).alloc (by omega) _) ⟨⟨hp, b1.alloc _, b2.alloc _, by simp; omega⟩, hB.alloc hB.size _⟩ ⟨W.heap.size, by omega, by simp, heap_alloc_new W _, rfl⟩
  case body =>
    rintro l pre x a' W hl ⟨r, hr⟩ ⟨⟨hp, b1, b2, hsz⟩, hB⟩ ⟨Bx, hBx, hBl, bX, rfl⟩ hlt
    obtain ⟨xi, xn, xa, xl, xc⟩ := x
    have x0 : W.cell? ⟨Bx, 0, none⟩ = some (.int .i64 xn) := cell_blk bX
    have x1 : W.cell? ⟨Bx, 1, none⟩ = some (.slice xa xl xc) := cell_blk bX
    have cN := b1.cell
    have cR := b2.cell
    have fR := b2.frozen
    by_cases hx : xn = N
    · subst hx
      gi_wp2
      exact ⟨(KeepsOthers.setCell _ _ _).from _, ⟨rfl, pre, ⟨xi, N, xa, xl, xc⟩, rfl, hp, rfl, blk_set b2 0 (.slice xa xl xc)⟩, hB.setCell (p := ⟨w.heap.size + 1, 0, none⟩) (by simp) _⟩
    · have hxb : (xn == (N : Int)) = false := by simpa using hx
      gi_wp2
      exact ⟨KeepsFrom.refl _ _, Below.refl _ _, ⟨fun y hy => (List.mem_append.1 hy).elim (hp y) (fun e => by simp at e; subst e; exact hx), b1, b2, by omega⟩, hB⟩
  case done =>
    rintro D' ys W hD rfl ⟨⟨hp, b1, b2, hsz⟩, hB⟩ hK
    have cN := b1.cell
    have cR := b2.cell
    have fR := b2.frozen
    have hx := HX.out.below hB
    have d0 : W.cell? ⟨db, 0, none⟩ = some (.slice (some ⟨sb, 0, none⟩) (D.safe.length * 256) cs) := by rw [← flatLen hx.ok]; exact cell_blk hx.cells
    have hroom : D.safe.length * 256 ≤ cs := by have := hx.room; have := flatLen hx.ok; omega
    have hfew := hx.ok.few
    have HP := Aside0.mk hp
    clear hx hp
    gi_wp2
    refine wpIn_wide.2 ?_
    have m0 : ∀ m : Go.Reg.In (fun x => x = W.drew), m.w.cell? ⟨db, 0, none⟩ = some (.slice (some ⟨sb, 0, none⟩) (D.safe.length * 256) cs) := fun m => by rw [m.h]; exact d0
    have m1 : ∀ m : Go.Reg.In (fun x => x = W.drew), m.w.cell? ⟨w.heap.size, 0, none⟩ = some (.int .i64 N) := fun m => by rw [m.h]; exact cN
    refine Go.Reg.region (fun x => x = W.drew) [.s, .s, .s, .s, .s, .x, .x] (by kernel_rfl) (by kernel_rfl) rfl (fun ne => ?_)
    refine Go.Reg.lex_q 5 _ _ _ _ (by rfl) ?_; simp only [List.take_succ_cons, List.take_zero, List.drop_succ_cons, List.drop_zero]; (repeat (go_big_quiet_step (rfl))); refine wpQuiet_nil ?_
    refine Go.Reg.step_x (by rfl) (fun K hKK => ?_)
    go_wp2_with fail
    refine (block_at sb D.safe.length cs N hN (by omega) hroom).mono ?_
    rintro e w1 ⟨rfl, rfl⟩
    go_wp2_with fail
    refine hKK.out _ _ ?_
    clear hKK K
    refine Go.Reg.step_x (by rfl) (fun K hKK => ?_)
    go_wp2_with fail
    refine hKK.out _ _ ?_
    clear hKK K
    refine Go.Reg.lex_nil ?_
    gi_wp2
    obtain ⟨V, hV⟩ : ∃ V, V = (W.setCell ⟨w.heap.size + 1, 0, none⟩ (.slice (some ⟨sb, N * 256, none⟩) 256 256)).drew := ⟨_, rfl⟩
    have hK' : V.heap[D']? = some (.deferred (some [])) := by rw [hV]; exact (KeepsOthers.setCell W ⟨w.heap.size + 1, 0, none⟩ (.slice (some ⟨sb, N * 256, none⟩) 256 256)).same D' _ hK rfl
    have hv : V.heap[w.heap.size + 1]? = some (.cells #[.slice (some ⟨sb, N * 256, none⟩) 256 256] 30 (0, 0)) := by rw [hV]; exact blk_set b2 0 _
    have hBV : Below w.heap.size w V := by rw [hV]; exact below_drew1 (hB.setCell (p := ⟨w.heap.size + 1, 0, none⟩) (by simp) _)
    rw [← hV]
    refine ⟨by simp, .inl ⟨_, _, rfl, run_takeDeferred hK', ?_⟩⟩
    have hc5 := cell_kept (show V.cell? ⟨w.heap.size + 1, 0, none⟩ = some (.slice (some ⟨sb, N * 256, none⟩) 256 256) from cell_blk hv) (grownBy_putObj' _ D' (.deferred none)) (fun r e => by cases e; exact ⟨_, hK', rfl⟩)
    refine ⟨.slice (some ⟨sb, N * 256, none⟩) 256 256, ?_, .inr ⟨fun j hj => ?_, rfl⟩, hBV.trans (belowK_b (w := w) (Nat.le_refl _) V D' _ _ (by omega) hK' rfl rfl)⟩
    · simp [results, Try.f36, go_sem, hc5]
    · have h1 := HP.out (E j) (by
        simp only [upto, List.mem_map, List.mem_range]
        exact ⟨len - 1 - j, by omega, by rw [show len - 1 - (len - 1 - j) = j by omega]⟩)
      exact h1
  case stop =>
    rintro D' c pre W hD ⟨k, hk, rfl⟩ ⟨⟨rfl, ini, last, e1, e2, e3, b2⟩, hB⟩ hK
    gi_wp2
    refine ⟨by simp, .inl ⟨_, _, rfl, run_takeDeferred hK, ?_⟩⟩
    obtain ⟨k', rfl⟩ : ∃ k', k = k' + 1 := by
      cases k with
      | zero => simp [upto] at e1
      | succ k' => exact ⟨k', rfl⟩
    rw [upto_succ] at e1
    obtain ⟨h5, h6⟩ := List.append_inj' e1 rfl
    obtain rfl : E (len - 1 - k') = last := by simpa using h6
    subst h5
    have hc5 := cell_kept b2.cell (grownBy_putObj' _ D' (.deferred none)) (fun r e => by cases e; exact ⟨_, hK, rfl⟩)
    refine ⟨(E (len - 1 - k')).v, ?_, .inl ⟨len - 1 - k', by omega, e3, fun i hi1 hi2 => ?_, rfl⟩, hB.trans (belowK_b (w := w) (Nat.le_refl _) W D' _ _ (by omega) hK rfl rfl)⟩
    · simp [results, Try.f36, go_sem, hc5]
    · exact e2 (E i) (by
        simp only [upto, List.mem_map, List.mem_range]
        exact ⟨len - 1 - i, by omega, by rw [show len - 1 - (len - 1 - i) = i by omega]⟩)
end Disk
end Go.Proofs.Ytooemgcijbdilaa
