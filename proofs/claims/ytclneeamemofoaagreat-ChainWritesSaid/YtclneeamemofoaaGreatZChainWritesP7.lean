/- Part 8 of the proof of ChainWrites: lemmas alone. -/
import Derived.Test.YtclneeamemofoaaGreatZChainWritesP6
section
namespace Go.Proofs.YtclneeamemofoaaGreat.PCellCuts
open Go.RowKit Go.Proofs.YtclneeamemofoaaGreatW.PrintWords Go.Proofs.YtclneeamemofoaaGreatW.PrintLast Go.Proofs.YtclneeamemofoaaGreatW.PrintMore
attribute [local go_sem] max2_int min2_int max_two min_two max_three min_three max_four min_four
set_option linter.unusedVariables false
set_option linter.unusedSimpArgs false
set_option linter.ambiguousOpen false
open Go.Proofs.YtclneeamemofoaaGreat.PChain
mutual
def cell_Join.l0 : Nat → List (S70) → List Int → List (S70) → Int → Int → Option (List Int × Bool)
  | 0, _, _, _, _, _ => none
  | k + 1, x0, x4, x8, x9, x10 => if x10 < x9 then (if 0 ≤ x10 then (if x10 < (x8.length : Int) then ((cell_may.f ((rd_T70 x8 x10).f0) ((rd_T70 x8 x10).f1) ((rd_T70 x8 x10).f2) ((rd_T70 x8 x10).f3)).bind fun t160 => (if t160 = true then (if 0 < (x0.length : Int) then (if ((rd_T70 x8 x10).f0) = ((rd_T70 x0 0).f0) then (cell_Join.j1 k x0 x4 (x10 == (wrap64 ((x0.length : Int) - 1))) x8 x9 x10 (((rd_T70 x8 x10).f1) != x10) ((rd_T70 x8 x10).f0) ((rd_T70 x8 x10).f1) ((rd_T70 x8 x10).f2) ((rd_T70 x8 x10).f3)) else (cell_Join.j1 k x0 x4 (x10 == (wrap64 ((x0.length : Int) - 1))) x8 x9 x10 true ((rd_T70 x8 x10).f0) ((rd_T70 x8 x10).f1) ((rd_T70 x8 x10).f2) ((rd_T70 x8 x10).f3))) else (none)) else (cell_Join.j1 k x0 x4 (x10 == (wrap64 ((x0.length : Int) - 1))) x8 x9 x10 true ((rd_T70 x8 x10).f0) ((rd_T70 x8 x10).f1) ((rd_T70 x8 x10).f2) ((rd_T70 x8 x10).f3)))) else (none)) else (none)) else (if (x0.length : Int) = 0 then (some (([] : List Int), false)) else (if (x4.length : Int) > 262144 then (some (([] : List Int), false)) else (some (x4, true))))
def cell_Join.j1 : Nat → List (S70) → List Int → Bool → List (S70) → Int → Int → Bool → Int → Int → Int → List Int → Option (List Int × Bool)
  | 0, _, _, _, _, _, _, _, _, _, _, _ => none
  | k + 1, x0, x4, x7, x8, x9, x10, x20, x160000, x160001, x160002, x160003 => if x20 = true then (some (([] : List Int), false)) else (if (x7 != (x160002 == 0)) = true then (some (([] : List Int), false)) else (if x7 = true then (if x4.length + x160003.length < 140737488355328 then (cell_Join.l0 k x0 (x4 ++ x160003) x8 x9 (wrap64 (x10 + 1))) else (none)) else (if (x160003.length : Int) < 242 then (some (([] : List Int), false)) else (if x4.length + x160003.length < 140737488355328 then (cell_Join.l0 k x0 (x4 ++ x160003) x8 x9 (wrap64 (x10 + 1))) else (none)))))
end
def cell_Join.f (k : Nat) (l0 : List (S70)) : Option (List Int × Bool) := cell_Join.l0 k l0 ([] : List Int) l0 (l0.length : Int) 0
def cell_Join.T6 : Bool × List (List Nat × List Nat) := (true, [([], []), ([0], [0]), ([1], [1]), ([2, 1], [2]), ([3], [3]), ([4, 3], [3, 4]), ([3], [3]), ([6, 3], [3, 6]), ([7, 3], [3, 7]), ([8, 3], [3, 8]), ([5, 9, 3], [3, 5, 9]), ([3, 10], [3, 10]), ([11, 3], [11]), ([12], [12]), ([13, 12], [12, 13]), ([12], [12]), ([14, 15, 12], [12, 14, 15]), ([12, 16], [12, 16]), ([17, 12], [17])])
def cell_Join.B6 : List Nat := [0, 1, 3, 7, 15, 31, 15, 79, 207, 463, 1023, 2047, 4095, 8191, 16383, 8191, 65535, 131071, 262143]
theorem cell_Join.tab6 : rtab .any (opsOf Tryz.f46 6) = cell_Join.T6 := by kernel_rfl
theorem cell_Join.bits6 : waitsOk cell_Join.T6.2 cell_Join.B6 = true := by kernel_rfl
set_option maxHeartbeats 8000000 in
set_option maxRecDepth 100000 in
theorem cell_Join.calls (k : Nat) (A0 : Option Addr) (c0 : Nat) (l0 : List (S70)) (r1 : List Int) (r2 : Bool) (w : World) (hr0 : Kd.C k70 w A0 l0.length l0) (hc0 : l0.length ≤ c0) (h : cell_Join.f k l0 = some (r1, r2)) :
    Calls Tryz.prog 46 #[.slice A0 l0.length c0] w fun e w' => ∃ v0_ : Value, e = .returned (.tuple #[v0_, .bool r2]) ∧ Kd.R (Kd.int .u8) 5 w' w.heap.size (fun _ => True) v0_ r1 ∧ Below w.heap.size w w' := by
  have hu70 := Tryz.underlying70
  have HR0 := Aside0.mk hr0
  have HC0 := Aside0.mk hc0
  clear hr0 hc0
  have HB := Aside0.mk (Below.refl w.heap.size w)
  have H : (cell_Join.l0 k l0 ([] : List Int) l0 (l0.length : Int) 0) = some (r1, r2) := h
  clear h
  have H' := Aside0.mk H
  clear H
  go_enter Tryz.func46, Tryz.ntmps46
  go_wp2
  go_loopg [4, 10] k (fun kq v4 v10 w' => ∃ (x4_1 : List Int) (x10_1 : Int), v10 = .int .i64 x10_1 ∧ Aside0 (cell_Join.l0 kq l0 x4_1 l0 (l0.length : Int) x10_1 = some (r1, r2)) ∧ Aside0 (kq ≤ k) ∧ Aside0 (Kd.R (Kd.int .u8) 5 w' w.heap.size (fun _ => True) v4 x4_1) ∧ Aside0 (Below w.heap.size w w'))
  case atStart => exact ⟨(([] : List Int)), (0), (by first | rfl | (simp; done) | (simp [*]; done)), H', ⟨Nat.le_refl _⟩, ⟨by first | exact Kd.R_nil _ _ _ _ _ | exact Kd.N_nil _ _ _ _ _ | exact Kd.V_nil _ _ _ _ _ | exact Kd.Q_nil _ _ _ _ _ | exact Kd.S_nil _ _ _ _ _⟩, ⟨by repeat (first | (with_reducible first | exact HB.out | apply below_alloc | apply pw_below_drewN | apply below_drew1) | exact HB.out)⟩⟩
  case round =>
    clear H'
    obtain ⟨x4_1, x10_1, rfl, HA, HK1, HO_4, HB⟩ := hrel
    cases gk with
    | zero => exact absurd HA.out (by simp [cell_Join.l0])
    | succ k1 =>
      have H := HA.out
      clear HA
      simp only [cell_Join.l0] at H
      by_cases c2 : x10_1 < (l0.length : Int)
      · rw [if_pos c2] at H
        have c2b0 : decide (x10_1 < (l0.length : Int)) = true := decide_eq_true c2
        clear c2
        by_cases c3 : 0 ≤ x10_1
        · rw [if_pos c3] at H
          have c3b0 : decide (0 ≤ x10_1) = true := decide_eq_true c3
          clear c3
          by_cases c4 : x10_1 < (l0.length : Int)
          · rw [if_pos c4] at H
            have c4b0 : decide (x10_1 < (l0.length : Int)) = true := decide_eq_true c4
            clear c4
            have HC5 := Aside0.mk H
            clear H
            have p158 : 0 ≤ (x10_1 : Int) := of_decide_eq_true (by first | (with_reducible assumption) | assumption)
            have q158 : x10_1 < (l0.length : Int) := of_decide_eq_true (by first | (with_reducible assumption) | assumption)
            obtain ⟨ad158, A158_3, c158_3, e158, hx158_0, hx158_1, hx158_2, hx158_3, hl158_3, hi158_3⟩ := at_T70 HR0.out x10_1 p158 q158
            cases e158
            replace hx158_0 := (HB.out.cell (World.block_lt_of_cell? w _ hx158_0)).trans hx158_0
            replace hx158_1 := (HB.out.cell (World.block_lt_of_cell? w _ hx158_1)).trans hx158_1
            replace hx158_2 := (HB.out.cell (World.block_lt_of_cell? w _ hx158_2)).trans hx158_2
            replace hx158_3 := (HB.out.cell (World.block_lt_of_cell? w _ hx158_3)).trans hx158_3
            have HR158_3 := Aside0.mk hi158_3
            have HC158_3 := Aside0.mk hl158_3
            clear hi158_3 hl158_3
            replace p158 := eq_true p158
            replace q158 := eq_true q158
            go_upto_region 6 with (first | ((with_reducible refine gate_dst (N := 6) rfl ?_); (try (refine gate_guard (by rfl) ?_; dsimp only)); refine box_event ?hg (N := 6) ?hd (cs := #[.int .i64 0, .int .i64 0, .int .i64 0, .slice none 0 0]) (t := 70) ?hr ?_; (case hd => rfl); (case hg => rfl); (case hr => first | (go_simp; done) | (go_simp; rfl)); intro gb159 hg w6 hbox hb; have n0_ := Aside0.mk (Kd.R_below (by (with_reducible repeat (first | apply Kd.R_alloc | apply Kd.R_drewN | apply Kd.R_drew)); exact HO_4.out) hb); have n1_ := Aside0.mk (below_step (by repeat (first | (with_reducible first | exact HB.out | apply below_alloc | apply pw_below_drewN | apply below_drew1) | exact HB.out)) hb); have n2_ := Aside0.mk (hbox); have n3_ := Aside0.mk ((by rw [hg]; exact (below_size (by repeat (first | (with_reducible first | exact HB.out | apply below_alloc | apply pw_below_drewN | apply below_drew1) | exact HB.out))) : w.heap.size ≤ gb159)); have n4_ := Aside0.mk ((by rw [hg]; exact (below_size (by repeat (first | (with_reducible first | exact HB.out | apply below_alloc | apply pw_below_drewN | apply below_drew1) | exact HB.out))) : w.heap.size ≤ gb159)); clear HO_4; clear HB; have HO_4 := n0_; have HB := n1_; have BK159 := n2_; have GW159 := n3_; have GE159 := n4_; clear n0_ n1_ n2_ n3_ n4_; clear hb hbox hg; have hcz7_0 : w6.cell? ⟨gb159, 0, none⟩ = some (.int .i64 0) := (blk_cell BK159.out 0).trans rfl; have hcz7_1 : w6.cell? ⟨gb159, 1, none⟩ = some (.int .i64 0) := (blk_cell BK159.out 1).trans rfl; have hcz7_2 : w6.cell? ⟨gb159, 2, none⟩ = some (.int .i64 0) := (blk_cell BK159.out 2).trans rfl; have hcz7_3 : w6.cell? ⟨gb159, 3, none⟩ = some (.slice none 0 0) := (blk_cell BK159.out 3).trans rfl; have hfz7_0 := blk_frozen BK159.out 0; have hfz7_1 := blk_frozen BK159.out 1; have hfz7_2 := blk_frozen BK159.out 2; have hfz7_3 := blk_frozen BK159.out 3))
            (try simp only [Act.put, List.setIfInBounds_toArray, List.set_cons_zero, List.set_cons_succ])
            go_cut [20] (fun v20 wc => ∃ (kq : Nat) (x20_4 : Bool), v20 = .bool x20_4 ∧ Aside0 (cell_Join.j1 kq l0 x4_1 (x10_1 == (wrap64 ((l0.length : Int) - 1))) l0 (l0.length : Int) x10_1 x20_4 ((rd_T70 l0 x10_1).f0) ((rd_T70 l0 x10_1).f1) ((rd_T70 l0 x10_1).f2) ((rd_T70 l0 x10_1).f3) = some (r1, r2)) ∧ Aside0 (kq ≤ k1) ∧ Aside0 (Kd.R (Kd.int .u8) 5 wc w.heap.size (fun _ => True) u4 x4_1) ∧ Aside0 (wc.heap[gb159]? = some (.cells #[.int .i64 ((rd_T70 l0 x10_1).f0), .int .i64 ((rd_T70 l0 x10_1).f1), .int .i64 ((rd_T70 l0 x10_1).f2), (.slice A158_3 ((rd_T70 l0 x10_1).f3).length c158_3)] 70 (0, 0))) ∧ Aside0 (Below w.heap.size w wc))
            case first =>
              have H := HC5.out
              clear HC5
              replace H := Option.bind_eq_some_iff.mp H
              obtain ⟨t160, A80, H⟩ := H
              replace H : (if t160 = true then (if 0 < (l0.length : Int) then (if ((rd_T70 l0 x10_1).f0) = ((rd_T70 l0 0).f0) then (cell_Join.j1 k1 l0 x4_1 (x10_1 == (wrap64 ((l0.length : Int) - 1))) l0 (l0.length : Int) x10_1 (((rd_T70 l0 x10_1).f1) != x10_1) ((rd_T70 l0 x10_1).f0) ((rd_T70 l0 x10_1).f1) ((rd_T70 l0 x10_1).f2) ((rd_T70 l0 x10_1).f3)) else (cell_Join.j1 k1 l0 x4_1 (x10_1 == (wrap64 ((l0.length : Int) - 1))) l0 (l0.length : Int) x10_1 true ((rd_T70 l0 x10_1).f0) ((rd_T70 l0 x10_1).f1) ((rd_T70 l0 x10_1).f2) ((rd_T70 l0 x10_1).f3))) else (none)) else (cell_Join.j1 k1 l0 x4_1 (x10_1 == (wrap64 ((l0.length : Int) - 1))) l0 (l0.length : Int) x10_1 true ((rd_T70 l0 x10_1).f0) ((rd_T70 l0 x10_1).f1) ((rd_T70 l0 x10_1).f2) ((rd_T70 l0 x10_1).f3))) = some (r1, r2) := H
              have A8 := Aside0.mk A80
              clear A80
              by_cases c9 : t160 = true
              · subst c9
                have H1 : (if 0 < (l0.length : Int) then (if ((rd_T70 l0 x10_1).f0) = ((rd_T70 l0 0).f0) then (cell_Join.j1 k1 l0 x4_1 (x10_1 == (wrap64 ((l0.length : Int) - 1))) l0 (l0.length : Int) x10_1 (((rd_T70 l0 x10_1).f1) != x10_1) ((rd_T70 l0 x10_1).f0) ((rd_T70 l0 x10_1).f1) ((rd_T70 l0 x10_1).f2) ((rd_T70 l0 x10_1).f3)) else (cell_Join.j1 k1 l0 x4_1 (x10_1 == (wrap64 ((l0.length : Int) - 1))) l0 (l0.length : Int) x10_1 true ((rd_T70 l0 x10_1).f0) ((rd_T70 l0 x10_1).f1) ((rd_T70 l0 x10_1).f2) ((rd_T70 l0 x10_1).f3))) else (none)) = some (r1, r2) := by rw [if_pos rfl] at H; exact H
                clear H
                have H := H1
                clear H1
                by_cases c10 : 0 < (l0.length : Int)
                · rw [if_pos c10] at H
                  have c10b0 : decide (0 < (l0.length : Int)) = true := decide_eq_true c10
                  have c10b1 : decide (0 < l0.length) = true := decide_eq_true (by omega)
                  clear c10
                  (first | rw [c10b0] | (simp only [i64_w, i32_w]; rw [c10b0]) | skip)
                  by_cases c11 : ((rd_T70 l0 x10_1).f0) = ((rd_T70 l0 0).f0)
                  · rw [if_pos c11] at H
                    have c11b0 : (((rd_T70 l0 x10_1).f0) == ((rd_T70 l0 0).f0)) = true := beq_iff_eq.mpr c11
                    have c11b1 : (((rd_T70 l0 x10_1).f0) != ((rd_T70 l0 0).f0)) = false := bne_eq_false_iff_eq.mpr c11
                    clear c11
                    have H' := Aside0.mk H
                    clear H
                    try go_wp2
                    have n0_ : Aside0 (Kd.R (Kd.int .u8) 5 ((((w6.setCell ⟨gb159, 0, none⟩ (.int .i64 ((rd_T70 l0 x10_1).f0))).setCell ⟨gb159, 1, none⟩ (.int .i64 ((rd_T70 l0 x10_1).f1))).setCell ⟨gb159, 2, none⟩ (.int .i64 ((rd_T70 l0 x10_1).f2))).setCell ⟨gb159, 3, none⟩ (.slice A158_3 ((rd_T70 l0 x10_1).f3).length c158_3)) w.heap.size (fun _ => True) u4 x4_1) := ⟨by (with_reducible repeat (first | apply Kd.R_alloc | apply Kd.R_drewN | apply Kd.R_drew)); exact Kd.R_mono (Kd.R_far (p := ⟨gb159, 3, none⟩) (Kd.R_far (p := ⟨gb159, 2, none⟩) (Kd.R_far (p := ⟨gb159, 1, none⟩) (Kd.R_far (p := ⟨gb159, 0, none⟩) (Kd.R_types HO_4.out BK159.out (by decide)) (fun _ hk => hk.2) (.int .i64 ((rd_T70 l0 x10_1).f0))) (fun _ hk => hk.2) (.int .i64 ((rd_T70 l0 x10_1).f1))) (fun _ hk => hk.2) (.int .i64 ((rd_T70 l0 x10_1).f2))) (fun _ hk => hk.2) (.slice A158_3 ((rd_T70 l0 x10_1).f3).length c158_3)) (fun _ hk => trivial)⟩
                    have n1_ : Aside0 (((((w6.setCell ⟨gb159, 0, none⟩ (.int .i64 ((rd_T70 l0 x10_1).f0))).setCell ⟨gb159, 1, none⟩ (.int .i64 ((rd_T70 l0 x10_1).f1))).setCell ⟨gb159, 2, none⟩ (.int .i64 ((rd_T70 l0 x10_1).f2))).setCell ⟨gb159, 3, none⟩ (.slice A158_3 ((rd_T70 l0 x10_1).f3).length c158_3)).heap[gb159]? = some (.cells #[.int .i64 ((rd_T70 l0 x10_1).f0), .int .i64 ((rd_T70 l0 x10_1).f1), .int .i64 ((rd_T70 l0 x10_1).f2), .slice A158_3 ((rd_T70 l0 x10_1).f3).length c158_3] 70 (0, 0))) := ⟨by (with_reducible repeat (first | refine blk_drewN ?_ _ | refine blk_drew ?_ | refine blk_alloc ?_ _)); refine blk_put (cs := #[.int .i64 ((rd_T70 l0 x10_1).f0), .int .i64 ((rd_T70 l0 x10_1).f1), .int .i64 ((rd_T70 l0 x10_1).f2), .slice none 0 0]) ?_ 3 _ rfl; (with_reducible repeat (first | refine blk_drewN ?_ _ | refine blk_drew ?_ | refine blk_alloc ?_ _)); refine blk_put (cs := #[.int .i64 ((rd_T70 l0 x10_1).f0), .int .i64 ((rd_T70 l0 x10_1).f1), .int .i64 0, .slice none 0 0]) ?_ 2 _ rfl; (with_reducible repeat (first | refine blk_drewN ?_ _ | refine blk_drew ?_ | refine blk_alloc ?_ _)); refine blk_put (cs := #[.int .i64 ((rd_T70 l0 x10_1).f0), .int .i64 0, .int .i64 0, .slice none 0 0]) ?_ 1 _ rfl; (with_reducible repeat (first | refine blk_drewN ?_ _ | refine blk_drew ?_ | refine blk_alloc ?_ _)); refine blk_put (cs := #[.int .i64 0, .int .i64 0, .int .i64 0, .slice none 0 0]) ?_ 0 _ rfl; (with_reducible repeat (first | refine blk_drewN ?_ _ | refine blk_drew ?_ | refine blk_alloc ?_ _)); exact BK159.out⟩
                    have n2_ : Aside0 (Below w.heap.size w ((((w6.setCell ⟨gb159, 0, none⟩ (.int .i64 ((rd_T70 l0 x10_1).f0))).setCell ⟨gb159, 1, none⟩ (.int .i64 ((rd_T70 l0 x10_1).f1))).setCell ⟨gb159, 2, none⟩ (.int .i64 ((rd_T70 l0 x10_1).f2))).setCell ⟨gb159, 3, none⟩ (.slice A158_3 ((rd_T70 l0 x10_1).f3).length c158_3))) := ⟨by repeat (first | (with_reducible first | exact HB.out | apply below_alloc | apply pw_below_drewN | apply below_drew1 | refine below_set ?_ GE159.out) | exact HB.out)⟩
                    (try clear HO_4)
                    (try clear BK159)
                    (try clear HB)
                    generalize ((((w6.setCell ⟨gb159, 0, none⟩ (.int .i64 ((rd_T70 l0 x10_1).f0))).setCell ⟨gb159, 1, none⟩ (.int .i64 ((rd_T70 l0 x10_1).f1))).setCell ⟨gb159, 2, none⟩ (.int .i64 ((rd_T70 l0 x10_1).f2))).setCell ⟨gb159, 3, none⟩ (.slice A158_3 ((rd_T70 l0 x10_1).f3).length c158_3)) = w12 at n0_ n1_ n2_ ⊢
                    have HO_4 := n0_
                    have BK159 := n1_
                    have HB := n2_
                    clear n0_ n1_ n2_
                    have n0_ := Aside0.mk (Kd.R_drew HO_4.out)
                    have n1_ := Aside0.mk (blk_drew BK159.out)
                    have n2_ := Aside0.mk (below_drew1 HB.out)
                    clear HO_4
                    clear BK159
                    clear HB
                    have HO_4 := n0_
                    have BK159 := n1_
                    have HB := n2_
                    clear n0_ n1_ n2_
                    have p161 : 0 ≤ (0 : Int) := (by omega)
                    have q161 : 0 < (l0.length : Int) := of_decide_eq_true (by first | (with_reducible assumption) | assumption)
                    obtain ⟨ad161, A161_3, c161_3, e161, hx161_0, hx161_1, hx161_2, hx161_3, hl161_3, hi161_3⟩ := at_T70 HR0.out 0 p161 q161
                    have hw161_3 := hx161_3
                    (try rw [show ((0 : Int)).toNat = 0 from rfl] at hw161_3)
                    (try rw [show 0 * 4 = 0 from rfl] at hw161_3)
                    (try rw [Addr.add_zero'] at hw161_3)
                    have hw161_2 := hx161_2
                    (try rw [show ((0 : Int)).toNat = 0 from rfl] at hw161_2)
                    (try rw [show 0 * 4 = 0 from rfl] at hw161_2)
                    (try rw [Addr.add_zero'] at hw161_2)
                    have hw161_1 := hx161_1
                    (try rw [show ((0 : Int)).toNat = 0 from rfl] at hw161_1)
                    (try rw [show 0 * 4 = 0 from rfl] at hw161_1)
                    (try rw [Addr.add_zero'] at hw161_1)
                    have hw161_0 := hx161_0
                    (try rw [show ((0 : Int)).toNat = 0 from rfl] at hw161_0)
                    (try rw [show 0 * 4 = 0 from rfl] at hw161_0)
                    (try rw [Addr.add_zero'] at hw161_0)
                    obtain rfl : ad158 = ad161 := (by injection e161)
                    have qi161 : (0 < l0.length) = True := eq_true (by omega)
                    (try rw [show ((0 : Int)).toNat = 0 from rfl] at hx161_0)
                    (try rw [show 0 * 4 = 0 from rfl] at hx161_0)
                    (try rw [Addr.add_zero'] at hx161_0)
                    (try rw [show ((0 : Int)).toNat = 0 from rfl] at hx161_1)
                    (try rw [show 0 * 4 = 0 from rfl] at hx161_1)
                    (try rw [Addr.add_zero'] at hx161_1)
                    (try rw [show ((0 : Int)).toNat = 0 from rfl] at hx161_2)
                    (try rw [show 0 * 4 = 0 from rfl] at hx161_2)
                    (try rw [Addr.add_zero'] at hx161_2)
                    (try rw [show ((0 : Int)).toNat = 0 from rfl] at hx161_3)
                    (try rw [show 0 * 4 = 0 from rfl] at hx161_3)
                    (try rw [Addr.add_zero'] at hx161_3)
                    replace hx161_0 := (HB.out.cell (World.block_lt_of_cell? w _ hx161_0)).trans hx161_0
                    replace hx161_1 := (HB.out.cell (World.block_lt_of_cell? w _ hx161_1)).trans hx161_1
                    replace hx161_2 := (HB.out.cell (World.block_lt_of_cell? w _ hx161_2)).trans hx161_2
                    replace hx161_3 := (HB.out.cell (World.block_lt_of_cell? w _ hx161_3)).trans hx161_3
                    have HR161_3 := Aside0.mk hi161_3
                    have HC161_3 := Aside0.mk hl161_3
                    clear hi161_3 hl161_3
                    replace p161 := eq_true p161
                    replace q161 := eq_true q161
                    refine start_ (n := 19) (S := fun w' => w'.cell? ⟨gb159, 0, none⟩ = some (.int .i64 ((rd_T70 l0 x10_1).f0)) ∧ w'.cell? ⟨gb159, 1, none⟩ = some (.int .i64 ((rd_T70 l0 x10_1).f1)) ∧ w'.cell? ⟨gb159, 2, none⟩ = some (.int .i64 ((rd_T70 l0 x10_1).f2)) ∧ w'.cell? ⟨gb159, 3, none⟩ = some (.slice A158_3 ((rd_T70 l0 x10_1).f3).length c158_3) ∧ w'.cell? ad158 = some (.int .i64 ((rd_T70 l0 0).f0)) ∧ w'.cell? ⟨ad158.block, ad158.off + 1, none⟩ = some (.int .i64 ((rd_T70 l0 0).f1)) ∧ w'.cell? ⟨ad158.block, ad158.off + 2, none⟩ = some (.int .i64 ((rd_T70 l0 0).f2)) ∧ w'.cell? ⟨ad158.block, ad158.off + 3, none⟩ = some (.slice A161_3 ((rd_T70 l0 0).f3).length c161_3)) (ds := []) #[false, false, false, false, false, false, false, false, false, false, false, false, false, false, false, false, false, false, false] (by kernel_rfl) rfl rfl ⟨(blk_cell BK159.out 0).trans rfl, (blk_cell BK159.out 1).trans rfl, (blk_cell BK159.out 2).trans rfl, (blk_cell BK159.out 3).trans rfl, ((HB.out.cell (World.block_lt_of_cell? w _ hw161_0)).trans hw161_0), ((HB.out.cell (World.block_lt_of_cell? w _ hw161_1)).trans hw161_1), ((HB.out.cell (World.block_lt_of_cell? w _ hw161_2)).trans hw161_2), ((HB.out.cell (World.block_lt_of_cell? w _ hw161_3)).trans hw161_3)⟩ (fun hHeld => ?_); refine with_tabW cell_Join.tab6 cell_Join.bits6 (fun HT_ HW_ => ?_)
                    generalize w12.drew = w13 at HO_4 BK159 HB HR161_3 hx161_0 hx161_1 hx161_2 hx161_3 hHeld ⊢
                    refine take_ (i := 0) (N := some 21) (v := ?_) (a' := ?_) #[true, false, false, false, false, false, false, false, false, false, false, false, false, false, false, false, false, false, false] rfl rfl (take_ofW HT_.out HW_.out (by kernel_rfl)) (fun _ _ _ h => h) (Or.inl ⟨by rfl, ?_⟩) hHeld ?_ ?_
                    rotate_left
                    · rintro w' ⟨s0, s1, s2, s3, s4, s5, s6, s7⟩
                      go_simp
                      with_reducible rfl
                    rotate_left
                    · simp only [Act.put, List.setIfInBounds_toArray, List.set_cons_zero, List.set_cons_succ, i64_w, i32_w]
                      rfl
                    refine one_ (i := 1) (N := some 22) #[true, true, false, false, false, false, false, false, false, false, false, false, false, false, false, false, false, false, false] rfl rfl (one_of HT_.out (by kernel_rfl)) (by decide) (fun K hK => ?_)
                    refine goes_ Tryz.func48 (by kernel_rfl) rfl #[.agg #[.int .i64 ((rd_T70 l0 x10_1).f0), .int .i64 ((rd_T70 l0 x10_1).f1), .int .i64 ((rd_T70 l0 x10_1).f2), .slice A158_3 ((rd_T70 l0 x10_1).f3).length c158_3]] (by rfl) rfl rfl (by (try simp only [List.map_toArray, List.map_cons, List.map_nil]); first | done | rfl | (simp only [List.length_drop, List.length_take]; rfl)) ?_
                    with_reducible refine (cell_may.calls ((rd_T70 l0 x10_1).f0) ((rd_T70 l0 x10_1).f1) ((rd_T70 l0 x10_1).f2) _ _ ((rd_T70 l0 x10_1).f3) true _ ?side1 ?side2 A8.out).mono ?_
                    (case side1 => repeat (first | exact (Kd.C_below HR158_3.out HB.out) | (with_reducible refine Kd.C_alloc ?_ _) | (with_reducible refine Kd.C_drewN ?_ _) | (with_reducible refine Kd.C_drew ?_)))
                    (case side2 => exact HC158_3.out)
                    rintro e w14 ⟨rfl, hb⟩
                    refine ⟨_, rfl, ?_⟩
                    have n0_ := Aside0.mk (Kd.R_below (by (with_reducible repeat (first | apply Kd.R_alloc | apply Kd.R_drewN | apply Kd.R_drew)); exact HO_4.out) hb)
                    have n1_ := Aside0.mk (blk_below (g := gb159) (o := .cells #[.int .i64 ((rd_T70 l0 x10_1).f0), .int .i64 ((rd_T70 l0 x10_1).f1), .int .i64 ((rd_T70 l0 x10_1).f2), .slice A158_3 ((rd_T70 l0 x10_1).f3).length c158_3] 70 (0, 0)) (by (with_reducible repeat (first | refine blk_drewN ?_ _ | refine blk_drew ?_ | refine blk_alloc ?_ _)); exact BK159.out) hb)
                    have n2_ := Aside0.mk (below_step (by repeat (first | (with_reducible first | exact HB.out | apply below_alloc | apply pw_below_drewN | apply below_drew1 | refine below_set ?_ GE159.out) | exact HB.out)) hb)
                    clear HO_4
                    clear BK159
                    clear HB
                    have HO_4 := n0_
                    have BK159 := n1_
                    have HB := n2_
                    clear n0_ n1_ n2_
                    (try clear hb)
                    (try clear hb2)
                    (try clear hk)
                    (try clear hi)
                    refine hK.out _ _ ⟨(blk_cell BK159.out 0).trans rfl, (blk_cell BK159.out 1).trans rfl, (blk_cell BK159.out 2).trans rfl, (blk_cell BK159.out 3).trans rfl, ((HB.out.cell (World.block_lt_of_cell? w _ hw161_0)).trans hw161_0), ((HB.out.cell (World.block_lt_of_cell? w _ hw161_1)).trans hw161_1), ((HB.out.cell (World.block_lt_of_cell? w _ hw161_2)).trans hw161_2), ((HB.out.cell (World.block_lt_of_cell? w _ hw161_3)).trans hw161_3)⟩ (fun hHeld => ?_)
                    clear hK K
                    refine norm_ (a' := ?_) ?_ ?_
                    rotate_left
                    · show Act.put _ (some 22) _ = _
                      simp only [Act.put, List.setIfInBounds_toArray, List.set_cons_zero, List.set_cons_succ, i64_w, i32_w]
                      rfl
                    refine pure_ (i := 2) (N := some 23) (v := ?_) (a' := ?_) #[true, true, true, false, false, false, false, false, false, false, false, false, false, false, false, false, false, false, false] rfl rfl (any_of HT_.out (by kernel_rfl)) (fun _ _ _ h => h) (Or.inl ⟨by rfl, ?_⟩) ?_ ?_
                    rotate_left
                    · intro w'
                      go_simp
                      with_reducible rfl
                    rotate_left
                    · simp only [Act.put, List.setIfInBounds_toArray, List.set_cons_zero, List.set_cons_succ, i64_w, i32_w]
                      rfl
                    refine pure_ (i := 3) (N := some 24) (v := ?_) (a' := ?_) #[true, true, true, true, false, false, false, false, false, false, false, false, false, false, false, false, false, false, false] rfl rfl (any_of HT_.out (by kernel_rfl)) (fun _ _ _ h => h) (Or.inl ⟨by rfl, ?_⟩) ?_ ?_
                    rotate_left
                    · intro w'
                      go_simp
                      with_reducible rfl
                    rotate_left
                    · simp only [Act.put, List.setIfInBounds_toArray, List.set_cons_zero, List.set_cons_succ, i64_w, i32_w]
                      rfl
                    refine pure_ (i := 4) (N := some 25) (v := ?_) (a' := ?_) #[true, true, true, true, true, false, false, false, false, false, false, false, false, false, false, false, false, false, false] rfl rfl (any_of HT_.out (by kernel_rfl)) (fun _ _ _ h => h) (Or.inl ⟨by rfl, ?_⟩) ?_ ?_
                    rotate_left
                    · intro w'
                      go_simp
                      with_reducible rfl
                    rotate_left
                    · simp only [Act.put, List.setIfInBounds_toArray, List.set_cons_zero, List.set_cons_succ, i64_w, i32_w]
                      rfl
                    refine pure_ (i := 6) (N := some 27) (v := ?_) (a' := ?_) #[true, true, true, true, true, false, true, false, false, false, false, false, false, false, false, false, false, false, false] rfl rfl (any_of HT_.out (by kernel_rfl)) (fun _ _ _ h => h) (Or.inl ⟨by rfl, ?_⟩) ?_ ?_
                    rotate_left
                    · intro w'
                      go_simp
                      with_reducible rfl
                    rotate_left
                    · simp only [Act.put, List.setIfInBounds_toArray, List.set_cons_zero, List.set_cons_succ, i64_w, i32_w]
                      rfl
                    refine pure_ (i := 7) (N := some 28) (v := ?_) (a' := ?_) #[true, true, true, true, true, false, true, true, false, false, false, false, false, false, false, false, false, false, false] rfl rfl (any_of HT_.out (by kernel_rfl)) (fun _ _ _ h => h) (Or.inl ⟨by rfl, ?_⟩) ?_ ?_
                    rotate_left
                    · intro w'
                      go_simp
                      with_reducible rfl
                    rotate_left
                    · simp only [Act.put, List.setIfInBounds_toArray, List.set_cons_zero, List.set_cons_succ, i64_w, i32_w]
                      rfl
                    refine pure_ (i := 8) (N := some 29) (v := ?_) (a' := ?_) #[true, true, true, true, true, false, true, true, true, false, false, false, false, false, false, false, false, false, false] rfl rfl (any_of HT_.out (by kernel_rfl)) (fun _ _ _ h => h) (Or.inl ⟨by rfl, ?_⟩) ?_ ?_
                    rotate_left
                    · intro w'
                      go_simp
                      with_reducible rfl
                    rotate_left
                    · simp only [Act.put, List.setIfInBounds_toArray, List.set_cons_zero, List.set_cons_succ, i64_w, i32_w]
                      rfl
                    refine take_ (i := 5) (N := some 26) (v := ?_) (a' := ?_) #[true, true, true, true, true, true, true, true, true, false, false, false, false, false, false, false, false, false, false] rfl rfl (take_ofW HT_.out HW_.out (by kernel_rfl)) (fun _ _ _ h => h) (Or.inl ⟨by rfl, ?_⟩) hHeld ?_ ?_
                    rotate_left
                    · rintro w' ⟨s0, s1, s2, s3, s4, s5, s6, s7⟩
                      go_simp
                      with_reducible rfl
                    rotate_left
                    · simp only [Act.put, List.setIfInBounds_toArray, List.set_cons_zero, List.set_cons_succ, i64_w, i32_w]
                      rfl
                    refine take_ (i := 9) (N := some 30) (v := ?_) (a' := ?_) #[true, true, true, true, true, true, true, true, true, true, false, false, false, false, false, false, false, false, false] rfl rfl (take_ofW HT_.out HW_.out (by kernel_rfl)) (fun _ _ _ h => h) (Or.inl ⟨by rfl, ?_⟩) hHeld ?_ ?_
                    rotate_left
                    · rintro w' ⟨s0, s1, s2, s3, s4, s5, s6, s7⟩
                      go_simp
                      with_reducible rfl
                    rotate_left
                    · simp only [Act.put, List.setIfInBounds_toArray, List.set_cons_zero, List.set_cons_succ, i64_w, i32_w]
                      rfl
                    refine pure_ (i := 10) (N := some 31) (v := ?_) (a' := ?_) #[true, true, true, true, true, true, true, true, true, true, true, false, false, false, false, false, false, false, false] rfl rfl (any_of HT_.out (by kernel_rfl)) (fun _ _ _ h => h) (Or.inl ⟨by rfl, ?_⟩) ?_ ?_
                    rotate_left
                    · intro w'
                      go_simp
                      with_reducible rfl
                    rotate_left
                    · simp only [Act.put, List.setIfInBounds_toArray, List.set_cons_zero, List.set_cons_succ, i64_w, i32_w]
                      rfl
                    refine pure_ (i := 11) (N := some 32) (v := ?_) (a' := ?_) #[true, true, true, true, true, true, true, true, true, true, true, true, false, false, false, false, false, false, false] rfl rfl (any_of HT_.out (by kernel_rfl)) (fun _ _ _ h => h) (Or.inl ⟨by rfl, ?_⟩) ?_ ?_
                    rotate_left
                    · intro w'
                      go_simp
                      with_reducible rfl
                    rotate_left
                    · simp only [Act.put, List.setIfInBounds_toArray, List.set_cons_zero, List.set_cons_succ, i64_w, i32_w]
                      rfl
                    refine pure_ (i := 12) (N := some 33) (v := ?_) (a' := ?_) #[true, true, true, true, true, true, true, true, true, true, true, true, true, false, false, false, false, false, false] rfl rfl (any_of HT_.out (by kernel_rfl)) (fun _ _ _ h => h) (Or.inl ⟨by rfl, ?_⟩) ?_ ?_
                    rotate_left
                    · intro w'
                      go_simp
                      with_reducible rfl
                    rotate_left
                    · simp only [Act.put, List.setIfInBounds_toArray, List.set_cons_zero, List.set_cons_succ, i64_w, i32_w]
                      rfl
                    refine pure_ (i := 13) (N := some 34) (v := ?_) (a' := ?_) #[true, true, true, true, true, true, true, true, true, true, true, true, true, true, false, false, false, false, false] rfl rfl (any_of HT_.out (by kernel_rfl)) (fun _ _ _ h => h) (Or.inl ⟨by rfl, ?_⟩) ?_ ?_
                    rotate_left
                    · intro w'
                      go_simp
                      with_reducible rfl
                    rotate_left
                    · simp only [Act.put, List.setIfInBounds_toArray, List.set_cons_zero, List.set_cons_succ, i64_w, i32_w]
                      rfl
                    refine pure_ (i := 15) (N := some 36) (v := ?_) (a' := ?_) #[true, true, true, true, true, true, true, true, true, true, true, true, true, true, false, true, false, false, false] rfl rfl (any_of HT_.out (by kernel_rfl)) (fun _ _ _ h => h) (Or.inl ⟨by rfl, ?_⟩) ?_ ?_
                    rotate_left
                    · intro w'
                      go_simp
                      with_reducible rfl
                    rotate_left
                    · simp only [Act.put, List.setIfInBounds_toArray, List.set_cons_zero, List.set_cons_succ, i64_w, i32_w]
                      rfl
                    refine take_ (i := 14) (N := some 35) (v := ?_) (a' := ?_) #[true, true, true, true, true, true, true, true, true, true, true, true, true, true, true, true, false, false, false] rfl rfl (take_ofW HT_.out HW_.out (by kernel_rfl)) (fun _ _ _ h => h) (Or.inl ⟨by rfl, ?_⟩) hHeld ?_ ?_
                    rotate_left
                    · rintro w' ⟨s0, s1, s2, s3, s4, s5, s6, s7⟩
                      go_simp
                      with_reducible rfl
                    rotate_left
                    · simp only [Act.put, List.setIfInBounds_toArray, List.set_cons_zero, List.set_cons_succ, i64_w, i32_w]
                      rfl
                    refine pure_ (i := 16) (N := some 37) (v := ?_) (a' := ?_) #[true, true, true, true, true, true, true, true, true, true, true, true, true, true, true, true, true, false, false] rfl rfl (any_of HT_.out (by kernel_rfl)) (fun _ _ _ h => h) (Or.inl ⟨by rfl, ?_⟩) ?_ ?_
                    rotate_left
                    · intro w'
                      go_simp
                      with_reducible rfl
                    rotate_left
                    · simp only [Act.put, List.setIfInBounds_toArray, List.set_cons_zero, List.set_cons_succ, i64_w, i32_w]
                      rfl
                    refine pure_ (i := 17) (N := some 38) (v := ?_) (a' := ?_) #[true, true, true, true, true, true, true, true, true, true, true, true, true, true, true, true, true, true, false] rfl rfl (any_of HT_.out (by kernel_rfl)) (fun _ _ _ h => h) (Or.inl ⟨by rfl, ?_⟩) ?_ ?_
                    rotate_left
                    · intro w'
                      go_simp
                      with_reducible rfl
                    rotate_left
                    · simp only [Act.put, List.setIfInBounds_toArray, List.set_cons_zero, List.set_cons_succ, i64_w, i32_w]
                      rfl
                    refine pure_ (i := 18) (N := some 20) (v := ?_) (a' := ?_) #[true, true, true, true, true, true, true, true, true, true, true, true, true, true, true, true, true, true, true] rfl rfl (any_of HT_.out (by kernel_rfl)) (fun _ _ _ h => h) (Or.inl ⟨by rfl, ?_⟩) ?_ ?_
                    rotate_left
                    · intro w'
                      go_simp
                      with_reducible rfl
                    rotate_left
                    · simp only [Act.put, List.setIfInBounds_toArray, List.set_cons_zero, List.set_cons_succ, i64_w, i32_w]
                      rfl
                    refine done_ (done_of HT_.out (by kernel_rfl)) ?_
                    try go_wp2
                    go_meet
                    case rel => exact ⟨_, ((((rd_T70 l0 x10_1).f1) != x10_1)), (by first | rfl | (simp; done) | (simp [*]; done)), H', ⟨by have := HK1.out; first | omega | exact Nat.le_refl _⟩, ⟨by (with_reducible repeat (first | apply Kd.R_alloc | apply Kd.R_drewN | apply Kd.R_drew)); exact HO_4.out⟩, ⟨by (with_reducible repeat (first | refine blk_drewN ?_ _ | refine blk_drew ?_ | refine blk_alloc ?_ _)); exact BK159.out⟩, ⟨by repeat (first | (with_reducible first | exact HB.out | apply below_alloc | apply pw_below_drewN | apply below_drew1 | refine below_set ?_ GE159.out) | exact HB.out)⟩⟩
                  · rw [if_neg c11] at H
                    have c11b0 : (((rd_T70 l0 x10_1).f0) == ((rd_T70 l0 0).f0)) = false := beq_eq_false_iff_ne.mpr c11
                    have c11b1 : (((rd_T70 l0 x10_1).f0) != ((rd_T70 l0 0).f0)) = true := bne_iff_ne.mpr c11
                    have H' := Aside0.mk H
                    clear H
                    try go_wp2
                    have n0_ : Aside0 (Kd.R (Kd.int .u8) 5 ((((w6.setCell ⟨gb159, 0, none⟩ (.int .i64 ((rd_T70 l0 x10_1).f0))).setCell ⟨gb159, 1, none⟩ (.int .i64 ((rd_T70 l0 x10_1).f1))).setCell ⟨gb159, 2, none⟩ (.int .i64 ((rd_T70 l0 x10_1).f2))).setCell ⟨gb159, 3, none⟩ (.slice A158_3 ((rd_T70 l0 x10_1).f3).length c158_3)) w.heap.size (fun _ => True) u4 x4_1) := ⟨by (with_reducible repeat (first | apply Kd.R_alloc | apply Kd.R_drewN | apply Kd.R_drew)); exact Kd.R_mono (Kd.R_far (p := ⟨gb159, 3, none⟩) (Kd.R_far (p := ⟨gb159, 2, none⟩) (Kd.R_far (p := ⟨gb159, 1, none⟩) (Kd.R_far (p := ⟨gb159, 0, none⟩) (Kd.R_types HO_4.out BK159.out (by decide)) (fun _ hk => hk.2) (.int .i64 ((rd_T70 l0 x10_1).f0))) (fun _ hk => hk.2) (.int .i64 ((rd_T70 l0 x10_1).f1))) (fun _ hk => hk.2) (.int .i64 ((rd_T70 l0 x10_1).f2))) (fun _ hk => hk.2) (.slice A158_3 ((rd_T70 l0 x10_1).f3).length c158_3)) (fun _ hk => trivial)⟩
                    have n1_ : Aside0 (((((w6.setCell ⟨gb159, 0, none⟩ (.int .i64 ((rd_T70 l0 x10_1).f0))).setCell ⟨gb159, 1, none⟩ (.int .i64 ((rd_T70 l0 x10_1).f1))).setCell ⟨gb159, 2, none⟩ (.int .i64 ((rd_T70 l0 x10_1).f2))).setCell ⟨gb159, 3, none⟩ (.slice A158_3 ((rd_T70 l0 x10_1).f3).length c158_3)).heap[gb159]? = some (.cells #[.int .i64 ((rd_T70 l0 x10_1).f0), .int .i64 ((rd_T70 l0 x10_1).f1), .int .i64 ((rd_T70 l0 x10_1).f2), .slice A158_3 ((rd_T70 l0 x10_1).f3).length c158_3] 70 (0, 0))) := ⟨by (with_reducible repeat (first | refine blk_drewN ?_ _ | refine blk_drew ?_ | refine blk_alloc ?_ _)); refine blk_put (cs := #[.int .i64 ((rd_T70 l0 x10_1).f0), .int .i64 ((rd_T70 l0 x10_1).f1), .int .i64 ((rd_T70 l0 x10_1).f2), .slice none 0 0]) ?_ 3 _ rfl; (with_reducible repeat (first | refine blk_drewN ?_ _ | refine blk_drew ?_ | refine blk_alloc ?_ _)); refine blk_put (cs := #[.int .i64 ((rd_T70 l0 x10_1).f0), .int .i64 ((rd_T70 l0 x10_1).f1), .int .i64 0, .slice none 0 0]) ?_ 2 _ rfl; (with_reducible repeat (first | refine blk_drewN ?_ _ | refine blk_drew ?_ | refine blk_alloc ?_ _)); refine blk_put (cs := #[.int .i64 ((rd_T70 l0 x10_1).f0), .int .i64 0, .int .i64 0, .slice none 0 0]) ?_ 1 _ rfl; (with_reducible repeat (first | refine blk_drewN ?_ _ | refine blk_drew ?_ | refine blk_alloc ?_ _)); refine blk_put (cs := #[.int .i64 0, .int .i64 0, .int .i64 0, .slice none 0 0]) ?_ 0 _ rfl; (with_reducible repeat (first | refine blk_drewN ?_ _ | refine blk_drew ?_ | refine blk_alloc ?_ _)); exact BK159.out⟩
                    have n2_ : Aside0 (Below w.heap.size w ((((w6.setCell ⟨gb159, 0, none⟩ (.int .i64 ((rd_T70 l0 x10_1).f0))).setCell ⟨gb159, 1, none⟩ (.int .i64 ((rd_T70 l0 x10_1).f1))).setCell ⟨gb159, 2, none⟩ (.int .i64 ((rd_T70 l0 x10_1).f2))).setCell ⟨gb159, 3, none⟩ (.slice A158_3 ((rd_T70 l0 x10_1).f3).length c158_3))) := ⟨by repeat (first | (with_reducible first | exact HB.out | apply below_alloc | apply pw_below_drewN | apply below_drew1 | refine below_set ?_ GE159.out) | exact HB.out)⟩
                    (try clear HO_4)
                    (try clear BK159)
                    (try clear HB)
                    generalize ((((w6.setCell ⟨gb159, 0, none⟩ (.int .i64 ((rd_T70 l0 x10_1).f0))).setCell ⟨gb159, 1, none⟩ (.int .i64 ((rd_T70 l0 x10_1).f1))).setCell ⟨gb159, 2, none⟩ (.int .i64 ((rd_T70 l0 x10_1).f2))).setCell ⟨gb159, 3, none⟩ (.slice A158_3 ((rd_T70 l0 x10_1).f3).length c158_3)) = w15 at n0_ n1_ n2_ ⊢
                    have HO_4 := n0_
                    have BK159 := n1_
                    have HB := n2_
                    clear n0_ n1_ n2_
                    have n0_ := Aside0.mk (Kd.R_drew HO_4.out)
                    have n1_ := Aside0.mk (blk_drew BK159.out)
                    have n2_ := Aside0.mk (below_drew1 HB.out)
                    clear HO_4
                    clear BK159
                    clear HB
                    have HO_4 := n0_
                    have BK159 := n1_
                    have HB := n2_
                    clear n0_ n1_ n2_
                    have p161 : 0 ≤ (0 : Int) := (by omega)
                    have q161 : 0 < (l0.length : Int) := of_decide_eq_true (by first | (with_reducible assumption) | assumption)
                    obtain ⟨ad161, A161_3, c161_3, e161, hx161_0, hx161_1, hx161_2, hx161_3, hl161_3, hi161_3⟩ := at_T70 HR0.out 0 p161 q161
                    have hw161_3 := hx161_3
                    (try rw [show ((0 : Int)).toNat = 0 from rfl] at hw161_3)
                    (try rw [show 0 * 4 = 0 from rfl] at hw161_3)
                    (try rw [Addr.add_zero'] at hw161_3)
                    have hw161_2 := hx161_2
                    (try rw [show ((0 : Int)).toNat = 0 from rfl] at hw161_2)
                    (try rw [show 0 * 4 = 0 from rfl] at hw161_2)
                    (try rw [Addr.add_zero'] at hw161_2)
                    have hw161_1 := hx161_1
                    (try rw [show ((0 : Int)).toNat = 0 from rfl] at hw161_1)
                    (try rw [show 0 * 4 = 0 from rfl] at hw161_1)
                    (try rw [Addr.add_zero'] at hw161_1)
                    have hw161_0 := hx161_0
                    (try rw [show ((0 : Int)).toNat = 0 from rfl] at hw161_0)
                    (try rw [show 0 * 4 = 0 from rfl] at hw161_0)
                    (try rw [Addr.add_zero'] at hw161_0)
                    obtain rfl : ad158 = ad161 := (by injection e161)
                    have qi161 : (0 < l0.length) = True := eq_true (by omega)
                    (try rw [show ((0 : Int)).toNat = 0 from rfl] at hx161_0)
                    (try rw [show 0 * 4 = 0 from rfl] at hx161_0)
                    (try rw [Addr.add_zero'] at hx161_0)
                    (try rw [show ((0 : Int)).toNat = 0 from rfl] at hx161_1)
                    (try rw [show 0 * 4 = 0 from rfl] at hx161_1)
                    (try rw [Addr.add_zero'] at hx161_1)
                    (try rw [show ((0 : Int)).toNat = 0 from rfl] at hx161_2)
                    (try rw [show 0 * 4 = 0 from rfl] at hx161_2)
                    (try rw [Addr.add_zero'] at hx161_2)
                    (try rw [show ((0 : Int)).toNat = 0 from rfl] at hx161_3)
                    (try rw [show 0 * 4 = 0 from rfl] at hx161_3)
                    (try rw [Addr.add_zero'] at hx161_3)
                    replace hx161_0 := (HB.out.cell (World.block_lt_of_cell? w _ hx161_0)).trans hx161_0
                    replace hx161_1 := (HB.out.cell (World.block_lt_of_cell? w _ hx161_1)).trans hx161_1
                    replace hx161_2 := (HB.out.cell (World.block_lt_of_cell? w _ hx161_2)).trans hx161_2
                    replace hx161_3 := (HB.out.cell (World.block_lt_of_cell? w _ hx161_3)).trans hx161_3
                    have HR161_3 := Aside0.mk hi161_3
                    have HC161_3 := Aside0.mk hl161_3
                    clear hi161_3 hl161_3
                    replace p161 := eq_true p161
                    replace q161 := eq_true q161
                    refine start_ (n := 19) (S := fun w' => w'.cell? ⟨gb159, 0, none⟩ = some (.int .i64 ((rd_T70 l0 x10_1).f0)) ∧ w'.cell? ⟨gb159, 1, none⟩ = some (.int .i64 ((rd_T70 l0 x10_1).f1)) ∧ w'.cell? ⟨gb159, 2, none⟩ = some (.int .i64 ((rd_T70 l0 x10_1).f2)) ∧ w'.cell? ⟨gb159, 3, none⟩ = some (.slice A158_3 ((rd_T70 l0 x10_1).f3).length c158_3) ∧ w'.cell? ad158 = some (.int .i64 ((rd_T70 l0 0).f0)) ∧ w'.cell? ⟨ad158.block, ad158.off + 1, none⟩ = some (.int .i64 ((rd_T70 l0 0).f1)) ∧ w'.cell? ⟨ad158.block, ad158.off + 2, none⟩ = some (.int .i64 ((rd_T70 l0 0).f2)) ∧ w'.cell? ⟨ad158.block, ad158.off + 3, none⟩ = some (.slice A161_3 ((rd_T70 l0 0).f3).length c161_3)) (ds := []) #[false, false, false, false, false, false, false, false, false, false, false, false, false, false, false, false, false, false, false] (by kernel_rfl) rfl rfl ⟨(blk_cell BK159.out 0).trans rfl, (blk_cell BK159.out 1).trans rfl, (blk_cell BK159.out 2).trans rfl, (blk_cell BK159.out 3).trans rfl, ((HB.out.cell (World.block_lt_of_cell? w _ hw161_0)).trans hw161_0), ((HB.out.cell (World.block_lt_of_cell? w _ hw161_1)).trans hw161_1), ((HB.out.cell (World.block_lt_of_cell? w _ hw161_2)).trans hw161_2), ((HB.out.cell (World.block_lt_of_cell? w _ hw161_3)).trans hw161_3)⟩ (fun hHeld => ?_); refine with_tabW cell_Join.tab6 cell_Join.bits6 (fun HT_ HW_ => ?_)
                    generalize w15.drew = w16 at HO_4 BK159 HB HR161_3 hx161_0 hx161_1 hx161_2 hx161_3 hHeld ⊢
                    refine take_ (i := 0) (N := some 21) (v := ?_) (a' := ?_) #[true, false, false, false, false, false, false, false, false, false, false, false, false, false, false, false, false, false, false] rfl rfl (take_ofW HT_.out HW_.out (by kernel_rfl)) (fun _ _ _ h => h) (Or.inl ⟨by rfl, ?_⟩) hHeld ?_ ?_
                    rotate_left
                    · rintro w' ⟨s0, s1, s2, s3, s4, s5, s6, s7⟩
                      go_simp
                      with_reducible rfl
                    rotate_left
                    · simp only [Act.put, List.setIfInBounds_toArray, List.set_cons_zero, List.set_cons_succ, i64_w, i32_w]
                      rfl
                    refine one_ (i := 1) (N := some 22) #[true, true, false, false, false, false, false, false, false, false, false, false, false, false, false, false, false, false, false] rfl rfl (one_of HT_.out (by kernel_rfl)) (by decide) (fun K hK => ?_)
                    refine goes_ Tryz.func48 (by kernel_rfl) rfl #[.agg #[.int .i64 ((rd_T70 l0 x10_1).f0), .int .i64 ((rd_T70 l0 x10_1).f1), .int .i64 ((rd_T70 l0 x10_1).f2), .slice A158_3 ((rd_T70 l0 x10_1).f3).length c158_3]] (by rfl) rfl rfl (by (try simp only [List.map_toArray, List.map_cons, List.map_nil]); first | done | rfl | (simp only [List.length_drop, List.length_take]; rfl)) ?_
                    with_reducible refine (cell_may.calls ((rd_T70 l0 x10_1).f0) ((rd_T70 l0 x10_1).f1) ((rd_T70 l0 x10_1).f2) _ _ ((rd_T70 l0 x10_1).f3) true _ ?side1 ?side2 A8.out).mono ?_
                    (case side1 => repeat (first | exact (Kd.C_below HR158_3.out HB.out) | (with_reducible refine Kd.C_alloc ?_ _) | (with_reducible refine Kd.C_drewN ?_ _) | (with_reducible refine Kd.C_drew ?_)))
                    (case side2 => exact HC158_3.out)
                    rintro e w17 ⟨rfl, hb⟩
                    refine ⟨_, rfl, ?_⟩
                    have n0_ := Aside0.mk (Kd.R_below (by (with_reducible repeat (first | apply Kd.R_alloc | apply Kd.R_drewN | apply Kd.R_drew)); exact HO_4.out) hb)
                    have n1_ := Aside0.mk (blk_below (g := gb159) (o := .cells #[.int .i64 ((rd_T70 l0 x10_1).f0), .int .i64 ((rd_T70 l0 x10_1).f1), .int .i64 ((rd_T70 l0 x10_1).f2), .slice A158_3 ((rd_T70 l0 x10_1).f3).length c158_3] 70 (0, 0)) (by (with_reducible repeat (first | refine blk_drewN ?_ _ | refine blk_drew ?_ | refine blk_alloc ?_ _)); exact BK159.out) hb)
                    have n2_ := Aside0.mk (below_step (by repeat (first | (with_reducible first | exact HB.out | apply below_alloc | apply pw_below_drewN | apply below_drew1 | refine below_set ?_ GE159.out) | exact HB.out)) hb)
                    clear HO_4
                    clear BK159
                    clear HB
                    have HO_4 := n0_
                    have BK159 := n1_
                    have HB := n2_
                    clear n0_ n1_ n2_
                    (try clear hb)
                    (try clear hb2)
                    (try clear hk)
                    (try clear hi)
                    refine hK.out _ _ ⟨(blk_cell BK159.out 0).trans rfl, (blk_cell BK159.out 1).trans rfl, (blk_cell BK159.out 2).trans rfl, (blk_cell BK159.out 3).trans rfl, ((HB.out.cell (World.block_lt_of_cell? w _ hw161_0)).trans hw161_0), ((HB.out.cell (World.block_lt_of_cell? w _ hw161_1)).trans hw161_1), ((HB.out.cell (World.block_lt_of_cell? w _ hw161_2)).trans hw161_2), ((HB.out.cell (World.block_lt_of_cell? w _ hw161_3)).trans hw161_3)⟩ (fun hHeld => ?_)
                    clear hK K
                    refine norm_ (a' := ?_) ?_ ?_
                    rotate_left
                    · show Act.put _ (some 22) _ = _
                      simp only [Act.put, List.setIfInBounds_toArray, List.set_cons_zero, List.set_cons_succ, i64_w, i32_w]
                      rfl
                    refine pure_ (i := 2) (N := some 23) (v := ?_) (a' := ?_) #[true, true, true, false, false, false, false, false, false, false, false, false, false, false, false, false, false, false, false] rfl rfl (any_of HT_.out (by kernel_rfl)) (fun _ _ _ h => h) (Or.inl ⟨by rfl, ?_⟩) ?_ ?_
                    rotate_left
                    · intro w'
                      go_simp
                      with_reducible rfl
                    rotate_left
                    · simp only [Act.put, List.setIfInBounds_toArray, List.set_cons_zero, List.set_cons_succ, i64_w, i32_w]
                      rfl
                    refine pure_ (i := 3) (N := some 24) (v := ?_) (a' := ?_) #[true, true, true, true, false, false, false, false, false, false, false, false, false, false, false, false, false, false, false] rfl rfl (any_of HT_.out (by kernel_rfl)) (fun _ _ _ h => h) (Or.inl ⟨by rfl, ?_⟩) ?_ ?_
                    rotate_left
                    · intro w'
                      go_simp
                      with_reducible rfl
                    rotate_left
                    · simp only [Act.put, List.setIfInBounds_toArray, List.set_cons_zero, List.set_cons_succ, i64_w, i32_w]
                      rfl
                    refine pure_ (i := 4) (N := some 25) (v := ?_) (a' := ?_) #[true, true, true, true, true, false, false, false, false, false, false, false, false, false, false, false, false, false, false] rfl rfl (any_of HT_.out (by kernel_rfl)) (fun _ _ _ h => h) (Or.inl ⟨by rfl, ?_⟩) ?_ ?_
                    rotate_left
                    · intro w'
                      go_simp
                      with_reducible rfl
                    rotate_left
                    · simp only [Act.put, List.setIfInBounds_toArray, List.set_cons_zero, List.set_cons_succ, i64_w, i32_w]
                      rfl
                    refine pure_ (i := 6) (N := some 27) (v := ?_) (a' := ?_) #[true, true, true, true, true, false, true, false, false, false, false, false, false, false, false, false, false, false, false] rfl rfl (any_of HT_.out (by kernel_rfl)) (fun _ _ _ h => h) (Or.inl ⟨by rfl, ?_⟩) ?_ ?_
                    rotate_left
                    · intro w'
                      go_simp
                      with_reducible rfl
                    rotate_left
                    · simp only [Act.put, List.setIfInBounds_toArray, List.set_cons_zero, List.set_cons_succ, i64_w, i32_w]
                      rfl
                    refine pure_ (i := 7) (N := some 28) (v := ?_) (a' := ?_) #[true, true, true, true, true, false, true, true, false, false, false, false, false, false, false, false, false, false, false] rfl rfl (any_of HT_.out (by kernel_rfl)) (fun _ _ _ h => h) (Or.inl ⟨by rfl, ?_⟩) ?_ ?_
                    rotate_left
                    · intro w'
                      go_simp
                      with_reducible rfl
                    rotate_left
                    · simp only [Act.put, List.setIfInBounds_toArray, List.set_cons_zero, List.set_cons_succ, i64_w, i32_w]
                      rfl
                    refine pure_ (i := 8) (N := some 29) (v := ?_) (a' := ?_) #[true, true, true, true, true, false, true, true, true, false, false, false, false, false, false, false, false, false, false] rfl rfl (any_of HT_.out (by kernel_rfl)) (fun _ _ _ h => h) (Or.inl ⟨by rfl, ?_⟩) ?_ ?_
                    rotate_left
                    · intro w'
                      go_simp
                      with_reducible rfl
                    rotate_left
                    · simp only [Act.put, List.setIfInBounds_toArray, List.set_cons_zero, List.set_cons_succ, i64_w, i32_w]
                      rfl
                    refine take_ (i := 5) (N := some 26) (v := ?_) (a' := ?_) #[true, true, true, true, true, true, true, true, true, false, false, false, false, false, false, false, false, false, false] rfl rfl (take_ofW HT_.out HW_.out (by kernel_rfl)) (fun _ _ _ h => h) (Or.inl ⟨by rfl, ?_⟩) hHeld ?_ ?_
                    rotate_left
                    · rintro w' ⟨s0, s1, s2, s3, s4, s5, s6, s7⟩
                      go_simp
                      with_reducible rfl
                    rotate_left
                    · simp only [Act.put, List.setIfInBounds_toArray, List.set_cons_zero, List.set_cons_succ, i64_w, i32_w]
                      rfl
                    refine take_ (i := 9) (N := some 30) (v := ?_) (a' := ?_) #[true, true, true, true, true, true, true, true, true, true, false, false, false, false, false, false, false, false, false] rfl rfl (take_ofW HT_.out HW_.out (by kernel_rfl)) (fun _ _ _ h => h) (Or.inl ⟨by rfl, ?_⟩) hHeld ?_ ?_
                    rotate_left
                    · rintro w' ⟨s0, s1, s2, s3, s4, s5, s6, s7⟩
                      go_simp
                      with_reducible rfl
                    rotate_left
                    · simp only [Act.put, List.setIfInBounds_toArray, List.set_cons_zero, List.set_cons_succ, i64_w, i32_w]
                      rfl
                    refine pure_ (i := 10) (N := some 31) (v := ?_) (a' := ?_) #[true, true, true, true, true, true, true, true, true, true, true, false, false, false, false, false, false, false, false] rfl rfl (any_of HT_.out (by kernel_rfl)) (fun _ _ _ h => h) (Or.inl ⟨by rfl, ?_⟩) ?_ ?_
                    rotate_left
                    · intro w'
                      go_simp
                      with_reducible rfl
                    rotate_left
                    · simp only [Act.put, List.setIfInBounds_toArray, List.set_cons_zero, List.set_cons_succ, i64_w, i32_w]
                      rfl
                    refine pure_ (i := 11) (N := some 32) (v := ?_) (a' := ?_) #[true, true, true, true, true, true, true, true, true, true, true, true, false, false, false, false, false, false, false] rfl rfl (any_of HT_.out (by kernel_rfl)) (fun _ _ _ h => h) (Or.inl ⟨by rfl, ?_⟩) ?_ ?_
                    rotate_left
                    · intro w'
                      go_simp
                      with_reducible rfl
                    rotate_left
                    · simp only [Act.put, List.setIfInBounds_toArray, List.set_cons_zero, List.set_cons_succ, i64_w, i32_w]
                      rfl
                    refine pure_ (i := 12) (N := some 33) (v := ?_) (a' := ?_) #[true, true, true, true, true, true, true, true, true, true, true, true, true, false, false, false, false, false, false] rfl rfl (any_of HT_.out (by kernel_rfl)) (fun _ _ _ h => h) (Or.inl ⟨by rfl, ?_⟩) ?_ ?_
                    rotate_left
                    · intro w'
                      go_simp
                      with_reducible rfl
                    rotate_left
                    · simp only [Act.put, List.setIfInBounds_toArray, List.set_cons_zero, List.set_cons_succ, i64_w, i32_w]
                      rfl
                    refine pure_ (i := 13) (N := some 34) (v := undef) (a' := ?_) #[true, true, true, true, true, true, true, true, true, true, true, true, true, true, false, false, false, false, false] rfl rfl (any_of HT_.out (by kernel_rfl)) (fun _ _ _ h => h) (Or.inr ⟨by rfl, rfl⟩) ?_ ?_
                    rotate_left
                    · simp only [Act.put, List.setIfInBounds_toArray, List.set_cons_zero, List.set_cons_succ, i64_w, i32_w]
                      rfl
                    refine pure_ (i := 14) (N := some 35) (v := undef) (a' := ?_) #[true, true, true, true, true, true, true, true, true, true, true, true, true, true, true, false, false, false, false] rfl rfl (any_of HT_.out (by kernel_rfl)) (fun _ _ _ h => h) (Or.inr ⟨by rfl, rfl⟩) ?_ ?_
                    rotate_left
                    · simp only [Act.put, List.setIfInBounds_toArray, List.set_cons_zero, List.set_cons_succ, i64_w, i32_w]
                      rfl
                    refine pure_ (i := 15) (N := some 36) (v := undef) (a' := ?_) #[true, true, true, true, true, true, true, true, true, true, true, true, true, true, true, true, false, false, false] rfl rfl (any_of HT_.out (by kernel_rfl)) (fun _ _ _ h => h) (Or.inr ⟨by rfl, rfl⟩) ?_ ?_
                    rotate_left
                    · simp only [Act.put, List.setIfInBounds_toArray, List.set_cons_zero, List.set_cons_succ, i64_w, i32_w]
                      rfl
                    refine pure_ (i := 16) (N := some 37) (v := undef) (a' := ?_) #[true, true, true, true, true, true, true, true, true, true, true, true, true, true, true, true, true, false, false] rfl rfl (any_of HT_.out (by kernel_rfl)) (fun _ _ _ h => h) (Or.inr ⟨by rfl, rfl⟩) ?_ ?_
                    rotate_left
                    · simp only [Act.put, List.setIfInBounds_toArray, List.set_cons_zero, List.set_cons_succ, i64_w, i32_w]
                      rfl
                    refine pure_ (i := 17) (N := some 38) (v := ?_) (a' := ?_) #[true, true, true, true, true, true, true, true, true, true, true, true, true, true, true, true, true, true, false] rfl rfl (any_of HT_.out (by kernel_rfl)) (fun _ _ _ h => h) (Or.inl ⟨by rfl, ?_⟩) ?_ ?_
                    rotate_left
                    · intro w'
                      go_simp
                      with_reducible rfl
                    rotate_left
                    · simp only [Act.put, List.setIfInBounds_toArray, List.set_cons_zero, List.set_cons_succ, i64_w, i32_w]
                      rfl
                    refine pure_ (i := 18) (N := some 20) (v := ?_) (a' := ?_) #[true, true, true, true, true, true, true, true, true, true, true, true, true, true, true, true, true, true, true] rfl rfl (any_of HT_.out (by kernel_rfl)) (fun _ _ _ h => h) (Or.inl ⟨by rfl, ?_⟩) ?_ ?_
                    rotate_left
                    · intro w'
                      go_simp
                      with_reducible rfl
                    rotate_left
                    · simp only [Act.put, List.setIfInBounds_toArray, List.set_cons_zero, List.set_cons_succ, i64_w, i32_w]
                      rfl
                    refine done_ (done_of HT_.out (by kernel_rfl)) ?_
                    try go_wp2
                    go_meet
                    case rel => exact ⟨_, (true), (by first | rfl | (simp; done) | (simp [*]; done)), H', ⟨by have := HK1.out; first | omega | exact Nat.le_refl _⟩, ⟨by (with_reducible repeat (first | apply Kd.R_alloc | apply Kd.R_drewN | apply Kd.R_drew)); exact HO_4.out⟩, ⟨by (with_reducible repeat (first | refine blk_drewN ?_ _ | refine blk_drew ?_ | refine blk_alloc ?_ _)); exact BK159.out⟩, ⟨by repeat (first | (with_reducible first | exact HB.out | apply below_alloc | apply pw_below_drewN | apply below_drew1 | refine below_set ?_ GE159.out) | exact HB.out)⟩⟩
                · rw [if_neg c10] at H
                  exact absurd H (by simp)
              · replace c9 := Bool.eq_false_iff.mpr c9
                subst c9
                have H1 : (cell_Join.j1 k1 l0 x4_1 (x10_1 == (wrap64 ((l0.length : Int) - 1))) l0 (l0.length : Int) x10_1 true ((rd_T70 l0 x10_1).f0) ((rd_T70 l0 x10_1).f1) ((rd_T70 l0 x10_1).f2) ((rd_T70 l0 x10_1).f3)) = some (r1, r2) := by rw [if_neg (show ¬ (false = true) by decide)] at H; exact H
                clear H
                have H := H1
                clear H1
                have H' := Aside0.mk H
                clear H
                try go_wp2
                have n0_ : Aside0 (Kd.R (Kd.int .u8) 5 ((((w6.setCell ⟨gb159, 0, none⟩ (.int .i64 ((rd_T70 l0 x10_1).f0))).setCell ⟨gb159, 1, none⟩ (.int .i64 ((rd_T70 l0 x10_1).f1))).setCell ⟨gb159, 2, none⟩ (.int .i64 ((rd_T70 l0 x10_1).f2))).setCell ⟨gb159, 3, none⟩ (.slice A158_3 ((rd_T70 l0 x10_1).f3).length c158_3)) w.heap.size (fun _ => True) u4 x4_1) := ⟨by (with_reducible repeat (first | apply Kd.R_alloc | apply Kd.R_drewN | apply Kd.R_drew)); exact Kd.R_mono (Kd.R_far (p := ⟨gb159, 3, none⟩) (Kd.R_far (p := ⟨gb159, 2, none⟩) (Kd.R_far (p := ⟨gb159, 1, none⟩) (Kd.R_far (p := ⟨gb159, 0, none⟩) (Kd.R_types HO_4.out BK159.out (by decide)) (fun _ hk => hk.2) (.int .i64 ((rd_T70 l0 x10_1).f0))) (fun _ hk => hk.2) (.int .i64 ((rd_T70 l0 x10_1).f1))) (fun _ hk => hk.2) (.int .i64 ((rd_T70 l0 x10_1).f2))) (fun _ hk => hk.2) (.slice A158_3 ((rd_T70 l0 x10_1).f3).length c158_3)) (fun _ hk => trivial)⟩
                have n1_ : Aside0 (((((w6.setCell ⟨gb159, 0, none⟩ (.int .i64 ((rd_T70 l0 x10_1).f0))).setCell ⟨gb159, 1, none⟩ (.int .i64 ((rd_T70 l0 x10_1).f1))).setCell ⟨gb159, 2, none⟩ (.int .i64 ((rd_T70 l0 x10_1).f2))).setCell ⟨gb159, 3, none⟩ (.slice A158_3 ((rd_T70 l0 x10_1).f3).length c158_3)).heap[gb159]? = some (.cells #[.int .i64 ((rd_T70 l0 x10_1).f0), .int .i64 ((rd_T70 l0 x10_1).f1), .int .i64 ((rd_T70 l0 x10_1).f2), .slice A158_3 ((rd_T70 l0 x10_1).f3).length c158_3] 70 (0, 0))) := ⟨by (with_reducible repeat (first | refine blk_drewN ?_ _ | refine blk_drew ?_ | refine blk_alloc ?_ _)); refine blk_put (cs := #[.int .i64 ((rd_T70 l0 x10_1).f0), .int .i64 ((rd_T70 l0 x10_1).f1), .int .i64 ((rd_T70 l0 x10_1).f2), .slice none 0 0]) ?_ 3 _ rfl; (with_reducible repeat (first | refine blk_drewN ?_ _ | refine blk_drew ?_ | refine blk_alloc ?_ _)); refine blk_put (cs := #[.int .i64 ((rd_T70 l0 x10_1).f0), .int .i64 ((rd_T70 l0 x10_1).f1), .int .i64 0, .slice none 0 0]) ?_ 2 _ rfl; (with_reducible repeat (first | refine blk_drewN ?_ _ | refine blk_drew ?_ | refine blk_alloc ?_ _)); refine blk_put (cs := #[.int .i64 ((rd_T70 l0 x10_1).f0), .int .i64 0, .int .i64 0, .slice none 0 0]) ?_ 1 _ rfl; (with_reducible repeat (first | refine blk_drewN ?_ _ | refine blk_drew ?_ | refine blk_alloc ?_ _)); refine blk_put (cs := #[.int .i64 0, .int .i64 0, .int .i64 0, .slice none 0 0]) ?_ 0 _ rfl; (with_reducible repeat (first | refine blk_drewN ?_ _ | refine blk_drew ?_ | refine blk_alloc ?_ _)); exact BK159.out⟩
                have n2_ : Aside0 (Below w.heap.size w ((((w6.setCell ⟨gb159, 0, none⟩ (.int .i64 ((rd_T70 l0 x10_1).f0))).setCell ⟨gb159, 1, none⟩ (.int .i64 ((rd_T70 l0 x10_1).f1))).setCell ⟨gb159, 2, none⟩ (.int .i64 ((rd_T70 l0 x10_1).f2))).setCell ⟨gb159, 3, none⟩ (.slice A158_3 ((rd_T70 l0 x10_1).f3).length c158_3))) := ⟨by repeat (first | (with_reducible first | exact HB.out | apply below_alloc | apply pw_below_drewN | apply below_drew1 | refine below_set ?_ GE159.out) | exact HB.out)⟩
                (try clear HO_4)
                (try clear BK159)
                (try clear HB)
                generalize ((((w6.setCell ⟨gb159, 0, none⟩ (.int .i64 ((rd_T70 l0 x10_1).f0))).setCell ⟨gb159, 1, none⟩ (.int .i64 ((rd_T70 l0 x10_1).f1))).setCell ⟨gb159, 2, none⟩ (.int .i64 ((rd_T70 l0 x10_1).f2))).setCell ⟨gb159, 3, none⟩ (.slice A158_3 ((rd_T70 l0 x10_1).f3).length c158_3)) = w18 at n0_ n1_ n2_ ⊢
                have HO_4 := n0_
                have BK159 := n1_
                have HB := n2_
                clear n0_ n1_ n2_
                have n0_ := Aside0.mk (Kd.R_drew HO_4.out)
                have n1_ := Aside0.mk (blk_drew BK159.out)
                have n2_ := Aside0.mk (below_drew1 HB.out)
                clear HO_4
                clear BK159
                clear HB
                have HO_4 := n0_
                have BK159 := n1_
                have HB := n2_
                clear n0_ n1_ n2_
                refine start_ (n := 19) (S := fun w' => w'.cell? ⟨gb159, 0, none⟩ = some (.int .i64 ((rd_T70 l0 x10_1).f0)) ∧ w'.cell? ⟨gb159, 1, none⟩ = some (.int .i64 ((rd_T70 l0 x10_1).f1)) ∧ w'.cell? ⟨gb159, 2, none⟩ = some (.int .i64 ((rd_T70 l0 x10_1).f2)) ∧ w'.cell? ⟨gb159, 3, none⟩ = some (.slice A158_3 ((rd_T70 l0 x10_1).f3).length c158_3)) (ds := []) #[false, false, false, false, false, false, false, false, false, false, false, false, false, false, false, false, false, false, false] (by kernel_rfl) rfl rfl ⟨(blk_cell BK159.out 0).trans rfl, (blk_cell BK159.out 1).trans rfl, (blk_cell BK159.out 2).trans rfl, (blk_cell BK159.out 3).trans rfl⟩ (fun hHeld => ?_); refine with_tabW cell_Join.tab6 cell_Join.bits6 (fun HT_ HW_ => ?_)
                generalize w18.drew = w19 at HO_4 BK159 HB hHeld ⊢
                refine take_ (i := 0) (N := some 21) (v := ?_) (a' := ?_) #[true, false, false, false, false, false, false, false, false, false, false, false, false, false, false, false, false, false, false] rfl rfl (take_ofW HT_.out HW_.out (by kernel_rfl)) (fun _ _ _ h => h) (Or.inl ⟨by rfl, ?_⟩) hHeld ?_ ?_
                rotate_left
                · rintro w' ⟨s0, s1, s2, s3⟩
                  go_simp
                  with_reducible rfl
                rotate_left
                · simp only [Act.put, List.setIfInBounds_toArray, List.set_cons_zero, List.set_cons_succ, i64_w, i32_w]
                  rfl
                refine one_ (i := 1) (N := some 22) #[true, true, false, false, false, false, false, false, false, false, false, false, false, false, false, false, false, false, false] rfl rfl (one_of HT_.out (by kernel_rfl)) (by decide) (fun K hK => ?_)
                refine goes_ Tryz.func48 (by kernel_rfl) rfl #[.agg #[.int .i64 ((rd_T70 l0 x10_1).f0), .int .i64 ((rd_T70 l0 x10_1).f1), .int .i64 ((rd_T70 l0 x10_1).f2), .slice A158_3 ((rd_T70 l0 x10_1).f3).length c158_3]] (by rfl) rfl rfl (by (try simp only [List.map_toArray, List.map_cons, List.map_nil]); first | done | rfl | (simp only [List.length_drop, List.length_take]; rfl)) ?_
                with_reducible refine (cell_may.calls ((rd_T70 l0 x10_1).f0) ((rd_T70 l0 x10_1).f1) ((rd_T70 l0 x10_1).f2) _ _ ((rd_T70 l0 x10_1).f3) false _ ?side1 ?side2 A8.out).mono ?_
                (case side1 => repeat (first | exact (Kd.C_below HR158_3.out HB.out) | (with_reducible refine Kd.C_alloc ?_ _) | (with_reducible refine Kd.C_drewN ?_ _) | (with_reducible refine Kd.C_drew ?_)))
                (case side2 => exact HC158_3.out)
                rintro e w20 ⟨rfl, hb⟩
                refine ⟨_, rfl, ?_⟩
                have n0_ := Aside0.mk (Kd.R_below (by (with_reducible repeat (first | apply Kd.R_alloc | apply Kd.R_drewN | apply Kd.R_drew)); exact HO_4.out) hb)
                have n1_ := Aside0.mk (blk_below (g := gb159) (o := .cells #[.int .i64 ((rd_T70 l0 x10_1).f0), .int .i64 ((rd_T70 l0 x10_1).f1), .int .i64 ((rd_T70 l0 x10_1).f2), .slice A158_3 ((rd_T70 l0 x10_1).f3).length c158_3] 70 (0, 0)) (by (with_reducible repeat (first | refine blk_drewN ?_ _ | refine blk_drew ?_ | refine blk_alloc ?_ _)); exact BK159.out) hb)
                have n2_ := Aside0.mk (below_step (by repeat (first | (with_reducible first | exact HB.out | apply below_alloc | apply pw_below_drewN | apply below_drew1 | refine below_set ?_ GE159.out) | exact HB.out)) hb)
                clear HO_4
                clear BK159
                clear HB
                have HO_4 := n0_
                have BK159 := n1_
                have HB := n2_
                clear n0_ n1_ n2_
                (try clear hb)
                (try clear hb2)
                (try clear hk)
                (try clear hi)
                refine hK.out _ _ ⟨(blk_cell BK159.out 0).trans rfl, (blk_cell BK159.out 1).trans rfl, (blk_cell BK159.out 2).trans rfl, (blk_cell BK159.out 3).trans rfl⟩ (fun hHeld => ?_)
                clear hK K
                refine norm_ (a' := ?_) ?_ ?_
                rotate_left
                · show Act.put _ (some 22) _ = _
                  simp only [Act.put, List.setIfInBounds_toArray, List.set_cons_zero, List.set_cons_succ, i64_w, i32_w]
                  rfl
                refine pure_ (i := 2) (N := some 23) (v := ?_) (a' := ?_) #[true, true, true, false, false, false, false, false, false, false, false, false, false, false, false, false, false, false, false] rfl rfl (any_of HT_.out (by kernel_rfl)) (fun _ _ _ h => h) (Or.inl ⟨by rfl, ?_⟩) ?_ ?_
                rotate_left
                · intro w'
                  go_simp
                  with_reducible rfl
                rotate_left
                · simp only [Act.put, List.setIfInBounds_toArray, List.set_cons_zero, List.set_cons_succ, i64_w, i32_w]
                  rfl
                refine pure_ (i := 3) (N := some 24) (v := ?_) (a' := ?_) #[true, true, true, true, false, false, false, false, false, false, false, false, false, false, false, false, false, false, false] rfl rfl (any_of HT_.out (by kernel_rfl)) (fun _ _ _ h => h) (Or.inl ⟨by rfl, ?_⟩) ?_ ?_
                rotate_left
                · intro w'
                  go_simp
                  with_reducible rfl
                rotate_left
                · simp only [Act.put, List.setIfInBounds_toArray, List.set_cons_zero, List.set_cons_succ, i64_w, i32_w]
                  rfl
                refine pure_ (i := 4) (N := some 25) (v := undef) (a' := ?_) #[true, true, true, true, true, false, false, false, false, false, false, false, false, false, false, false, false, false, false] rfl rfl (any_of HT_.out (by kernel_rfl)) (fun _ _ _ h => h) (Or.inr ⟨by rfl, rfl⟩) ?_ ?_
                rotate_left
                · simp only [Act.put, List.setIfInBounds_toArray, List.set_cons_zero, List.set_cons_succ, i64_w, i32_w]
                  rfl
                refine pure_ (i := 5) (N := some 26) (v := undef) (a' := ?_) #[true, true, true, true, true, true, false, false, false, false, false, false, false, false, false, false, false, false, false] rfl rfl (any_of HT_.out (by kernel_rfl)) (fun _ _ _ h => h) (Or.inr ⟨by rfl, rfl⟩) ?_ ?_
                rotate_left
                · simp only [Act.put, List.setIfInBounds_toArray, List.set_cons_zero, List.set_cons_succ, i64_w, i32_w]
                  rfl
                refine pure_ (i := 6) (N := some 27) (v := undef) (a' := ?_) #[true, true, true, true, true, true, true, false, false, false, false, false, false, false, false, false, false, false, false] rfl rfl (any_of HT_.out (by kernel_rfl)) (fun _ _ _ h => h) (Or.inr ⟨by rfl, rfl⟩) ?_ ?_
                rotate_left
                · simp only [Act.put, List.setIfInBounds_toArray, List.set_cons_zero, List.set_cons_succ, i64_w, i32_w]
                  rfl
                refine pure_ (i := 7) (N := some 28) (v := undef) (a' := ?_) #[true, true, true, true, true, true, true, true, false, false, false, false, false, false, false, false, false, false, false] rfl rfl (any_of HT_.out (by kernel_rfl)) (fun _ _ _ h => h) (Or.inr ⟨by rfl, rfl⟩) ?_ ?_
                rotate_left
                · simp only [Act.put, List.setIfInBounds_toArray, List.set_cons_zero, List.set_cons_succ, i64_w, i32_w]
                  rfl
                refine pure_ (i := 8) (N := some 29) (v := undef) (a' := ?_) #[true, true, true, true, true, true, true, true, true, false, false, false, false, false, false, false, false, false, false] rfl rfl (any_of HT_.out (by kernel_rfl)) (fun _ _ _ h => h) (Or.inr ⟨by rfl, rfl⟩) ?_ ?_
                rotate_left
                · simp only [Act.put, List.setIfInBounds_toArray, List.set_cons_zero, List.set_cons_succ, i64_w, i32_w]
                  rfl
                refine pure_ (i := 9) (N := some 30) (v := undef) (a' := ?_) #[true, true, true, true, true, true, true, true, true, true, false, false, false, false, false, false, false, false, false] rfl rfl (any_of HT_.out (by kernel_rfl)) (fun _ _ _ h => h) (Or.inr ⟨by rfl, rfl⟩) ?_ ?_
                rotate_left
                · simp only [Act.put, List.setIfInBounds_toArray, List.set_cons_zero, List.set_cons_succ, i64_w, i32_w]
                  rfl
                refine pure_ (i := 10) (N := some 31) (v := undef) (a' := ?_) #[true, true, true, true, true, true, true, true, true, true, true, false, false, false, false, false, false, false, false] rfl rfl (any_of HT_.out (by kernel_rfl)) (fun _ _ _ h => h) (Or.inr ⟨by rfl, rfl⟩) ?_ ?_
                rotate_left
                · simp only [Act.put, List.setIfInBounds_toArray, List.set_cons_zero, List.set_cons_succ, i64_w, i32_w]
                  rfl
                refine pure_ (i := 11) (N := some 32) (v := ?_) (a' := ?_) #[true, true, true, true, true, true, true, true, true, true, true, true, false, false, false, false, false, false, false] rfl rfl (any_of HT_.out (by kernel_rfl)) (fun _ _ _ h => h) (Or.inl ⟨by rfl, ?_⟩) ?_ ?_
                rotate_left
                · intro w'
                  go_simp
                  with_reducible rfl
                rotate_left
                · simp only [Act.put, List.setIfInBounds_toArray, List.set_cons_zero, List.set_cons_succ, i64_w, i32_w]
                  rfl
                refine pure_ (i := 12) (N := some 33) (v := ?_) (a' := ?_) #[true, true, true, true, true, true, true, true, true, true, true, true, true, false, false, false, false, false, false] rfl rfl (any_of HT_.out (by kernel_rfl)) (fun _ _ _ h => h) (Or.inl ⟨by rfl, ?_⟩) ?_ ?_
                rotate_left
                · intro w'
                  go_simp
                  with_reducible rfl
                rotate_left
                · simp only [Act.put, List.setIfInBounds_toArray, List.set_cons_zero, List.set_cons_succ, i64_w, i32_w]
                  rfl
                refine pure_ (i := 13) (N := some 34) (v := undef) (a' := ?_) #[true, true, true, true, true, true, true, true, true, true, true, true, true, true, false, false, false, false, false] rfl rfl (any_of HT_.out (by kernel_rfl)) (fun _ _ _ h => h) (Or.inr ⟨by rfl, rfl⟩) ?_ ?_
                rotate_left
                · simp only [Act.put, List.setIfInBounds_toArray, List.set_cons_zero, List.set_cons_succ, i64_w, i32_w]
                  rfl
                refine pure_ (i := 14) (N := some 35) (v := undef) (a' := ?_) #[true, true, true, true, true, true, true, true, true, true, true, true, true, true, true, false, false, false, false] rfl rfl (any_of HT_.out (by kernel_rfl)) (fun _ _ _ h => h) (Or.inr ⟨by rfl, rfl⟩) ?_ ?_
                rotate_left
                · simp only [Act.put, List.setIfInBounds_toArray, List.set_cons_zero, List.set_cons_succ, i64_w, i32_w]
                  rfl
                refine pure_ (i := 15) (N := some 36) (v := undef) (a' := ?_) #[true, true, true, true, true, true, true, true, true, true, true, true, true, true, true, true, false, false, false] rfl rfl (any_of HT_.out (by kernel_rfl)) (fun _ _ _ h => h) (Or.inr ⟨by rfl, rfl⟩) ?_ ?_
                rotate_left
                · simp only [Act.put, List.setIfInBounds_toArray, List.set_cons_zero, List.set_cons_succ, i64_w, i32_w]
                  rfl
                refine pure_ (i := 16) (N := some 37) (v := undef) (a' := ?_) #[true, true, true, true, true, true, true, true, true, true, true, true, true, true, true, true, true, false, false] rfl rfl (any_of HT_.out (by kernel_rfl)) (fun _ _ _ h => h) (Or.inr ⟨by rfl, rfl⟩) ?_ ?_
                rotate_left
                · simp only [Act.put, List.setIfInBounds_toArray, List.set_cons_zero, List.set_cons_succ, i64_w, i32_w]
                  rfl
                refine pure_ (i := 17) (N := some 38) (v := ?_) (a' := ?_) #[true, true, true, true, true, true, true, true, true, true, true, true, true, true, true, true, true, true, false] rfl rfl (any_of HT_.out (by kernel_rfl)) (fun _ _ _ h => h) (Or.inl ⟨by rfl, ?_⟩) ?_ ?_
                rotate_left
                · intro w'
                  go_simp
                  with_reducible rfl
                rotate_left
                · simp only [Act.put, List.setIfInBounds_toArray, List.set_cons_zero, List.set_cons_succ, i64_w, i32_w]
                  rfl
                refine pure_ (i := 18) (N := some 20) (v := ?_) (a' := ?_) #[true, true, true, true, true, true, true, true, true, true, true, true, true, true, true, true, true, true, true] rfl rfl (any_of HT_.out (by kernel_rfl)) (fun _ _ _ h => h) (Or.inl ⟨by rfl, ?_⟩) ?_ ?_
                rotate_left
                · intro w'
                  go_simp
                  with_reducible rfl
                rotate_left
                · simp only [Act.put, List.setIfInBounds_toArray, List.set_cons_zero, List.set_cons_succ, i64_w, i32_w]
                  rfl
                refine done_ (done_of HT_.out (by kernel_rfl)) ?_
                try go_wp2
                go_meet
                case rel => exact ⟨_, (true), (by first | rfl | (simp; done) | (simp [*]; done)), H', ⟨by have := HK1.out; first | omega | exact Nat.le_refl _⟩, ⟨by (with_reducible repeat (first | apply Kd.R_alloc | apply Kd.R_drewN | apply Kd.R_drew)); exact HO_4.out⟩, ⟨by (with_reducible repeat (first | refine blk_drewN ?_ _ | refine blk_drew ?_ | refine blk_alloc ?_ _)); exact BK159.out⟩, ⟨by repeat (first | (with_reducible first | exact HB.out | apply below_alloc | apply pw_below_drewN | apply below_drew1 | refine below_set ?_ GE159.out) | exact HB.out)⟩⟩
            case rest =>
              clear HC5
              try clear c1
              try clear p1
              try clear q1
              try clear hx1
              try clear qi1
              try clear p2
              try clear c4
              try clear p6
              try clear c9
              try clear c10
              try clear c11
              try clear c11b0
              try clear c11b1
              try clear c15
              try clear c16
              try clear p16
              try clear q16
              try clear hx16
              try clear qi16
              try clear hx161_0
              try clear hx161_1
              try clear hx161_2
              try clear hx161_3
              try clear p161
              try clear q161
              obtain ⟨kq, x20_4, rfl, HA, HJ4, HO_4, BK159, HB⟩ := hcut
              cases kq with
              | zero => exact absurd HA.out (by simp [cell_Join.j1])
              | succ kj4 =>
                have H := HA.out
                clear HA
                simp only [cell_Join.j1] at H
                by_cases c21 : x20_4 = true
                · subst c21
                  have H1 : (some (([] : List Int), false)) = some (r1, r2) := by rw [if_pos rfl] at H; exact H
                  clear H
                  have H := H1
                  clear H1
                  simp only [Option.some.injEq, Prod.mk.injEq] at H
                  obtain ⟨rfl, rfl⟩ := H
                  go_wp2
                  go_ret2
                  exact ⟨_, by first | rfl | (simp [errW_none, errW_some] <;> rfl) | (simp [*, errW_none, errW_some] <;> rfl), by first | exact Kd.R_nil _ _ _ _ _ | exact Kd.N_nil _ _ _ _ _ | exact Kd.V_nil _ _ _ _ _ | exact Kd.Q_nil _ _ _ _ _ | exact Kd.S_nil _ _ _ _ _, by repeat (first | (with_reducible first | exact HB.out | apply below_alloc | apply pw_below_drewN | apply below_drew1 | refine below_set ?_ GE159.out) | exact HB.out)⟩
                · replace c21 := Bool.eq_false_iff.mpr c21
                  subst c21
                  have H1 : (if ((x10_1 == (wrap64 ((l0.length : Int) - 1))) != (((rd_T70 l0 x10_1).f2) == 0)) = true then (some (([] : List Int), false)) else (if (x10_1 == (wrap64 ((l0.length : Int) - 1))) = true then (if x4_1.length + ((rd_T70 l0 x10_1).f3).length < 140737488355328 then (cell_Join.l0 kj4 l0 (x4_1 ++ ((rd_T70 l0 x10_1).f3)) l0 (l0.length : Int) (wrap64 (x10_1 + 1))) else (none)) else (if (((rd_T70 l0 x10_1).f3).length : Int) < 242 then (some (([] : List Int), false)) else (if x4_1.length + ((rd_T70 l0 x10_1).f3).length < 140737488355328 then (cell_Join.l0 kj4 l0 (x4_1 ++ ((rd_T70 l0 x10_1).f3)) l0 (l0.length : Int) (wrap64 (x10_1 + 1))) else (none))))) = some (r1, r2) := by rw [if_neg (show ¬ (false = true) by decide)] at H; exact H
                  clear H
                  have H := H1
                  clear H1
                  by_cases c22 : ((x10_1 == (wrap64 ((l0.length : Int) - 1))) != (((rd_T70 l0 x10_1).f2) == 0)) = true
                  · rw [if_pos c22] at H
                    have c22b0 : ((x10_1 == (wrap64 ((l0.length : Int) - 1))) != (((rd_T70 l0 x10_1).f2) == 0)) = true := c22
                    (try (have c22b1 : decide ((x10_1 == (wrap64 ((l0.length : Int) - 1))) = (((rd_T70 l0 x10_1).f2) == 0)) = false := by simpa using c22))
                    (try (have c22b2 : ((x10_1 == (wrap64 ((l0.length : Int) - 1))) == (((rd_T70 l0 x10_1).f2) == 0)) = false := by simpa using c22))
                    (try (have c22b3 : ¬ ((x10_1 == (wrap64 ((l0.length : Int) - 1))) = (((rd_T70 l0 x10_1).f2) == 0)) := by simpa using c22))
                    clear c22
                    simp only [Option.some.injEq, Prod.mk.injEq] at H
                    obtain ⟨rfl, rfl⟩ := H
                    have hcz23_0 : wc.cell? ⟨gb159, 0, none⟩ = some (.int .i64 ((rd_T70 l0 x10_1).f0)) := (blk_cell BK159.out 0).trans rfl
                    have hcz23_1 : wc.cell? ⟨gb159, 1, none⟩ = some (.int .i64 ((rd_T70 l0 x10_1).f1)) := (blk_cell BK159.out 1).trans rfl
                    have hcz23_2 : wc.cell? ⟨gb159, 2, none⟩ = some (.int .i64 ((rd_T70 l0 x10_1).f2)) := (blk_cell BK159.out 2).trans rfl
                    have hcz23_3 : wc.cell? ⟨gb159, 3, none⟩ = some (.slice A158_3 ((rd_T70 l0 x10_1).f3).length c158_3) := (blk_cell BK159.out 3).trans rfl
                    have hfz23_0 := blk_frozen BK159.out 0
                    have hfz23_1 := blk_frozen BK159.out 1
                    have hfz23_2 := blk_frozen BK159.out 2
                    have hfz23_3 := blk_frozen BK159.out 3
                    go_wp2
                    go_ret2
                    exact ⟨_, by first | rfl | (simp [errW_none, errW_some] <;> rfl) | (simp [*, errW_none, errW_some] <;> rfl), by first | exact Kd.R_nil _ _ _ _ _ | exact Kd.N_nil _ _ _ _ _ | exact Kd.V_nil _ _ _ _ _ | exact Kd.Q_nil _ _ _ _ _ | exact Kd.S_nil _ _ _ _ _, by repeat (first | (with_reducible first | exact HB.out | apply below_alloc | apply pw_below_drewN | apply below_drew1 | refine below_set ?_ GE159.out) | exact HB.out)⟩
                  · rw [if_neg c22] at H
                    have c22b0 : ((x10_1 == (wrap64 ((l0.length : Int) - 1))) != (((rd_T70 l0 x10_1).f2) == 0)) = false := by simpa using c22
                    (try (have c22b1 : decide ((x10_1 == (wrap64 ((l0.length : Int) - 1))) = (((rd_T70 l0 x10_1).f2) == 0)) = true := by simpa using c22))
                    (try (have c22b2 : ((x10_1 == (wrap64 ((l0.length : Int) - 1))) == (((rd_T70 l0 x10_1).f2) == 0)) = true := by simpa using c22))
                    clear c22
                    by_cases c24 : (x10_1 == (wrap64 ((l0.length : Int) - 1))) = true
                    · rw [if_pos c24] at H
                      have c24b0 : (x10_1 == (wrap64 ((l0.length : Int) - 1))) = true := c24
                      (try (have c24b1 : decide (x10_1 = (wrap64 ((l0.length : Int) - 1))) = true := by simpa using c24))
                      (try (have c24b2 : (x10_1 == (wrap64 ((l0.length : Int) - 1))) = true := by simpa using c24))
                      clear c24
                      have f2b : (((rd_T70 l0 x10_1).f2) == 0) = true := by have h_ := c22b0; rw [c24b0] at h_; simpa using h_
                      by_cases c25 : x4_1.length + ((rd_T70 l0 x10_1).f3).length < 140737488355328
                      · rw [if_pos c25] at H
                        have LMc25 := Aside0.mk c25
                        clear c25
                        obtain ⟨y162, hy162⟩ : ∃ y_ : List Int, y_ = (x4_1 ++ ((rd_T70 l0 x10_1).f3)) := ⟨_, rfl⟩
                        replace H : (cell_Join.l0 kj4 l0 y162 l0 (l0.length : Int) (wrap64 (x10_1 + 1))) = some (r1, r2) := by first | (rw [hy162]; with_reducible exact H) | (have H2_ := (Option.bind_some _ _).symm.trans H; rw [hy162]; with_reducible exact H2_) | (have H2_ := (Option.bind_some _ _).symm.trans H; with_reducible exact H2_) | with_reducible exact H | (rw [hy162]; exact H) | exact H
                        have Ny162 := Aside0.mk hy162
                        clear hy162
                        have H' := Aside0.mk H
                        clear H
                        have hcz26_0 : wc.cell? ⟨gb159, 0, none⟩ = some (.int .i64 ((rd_T70 l0 x10_1).f0)) := (blk_cell BK159.out 0).trans rfl
                        have hcz26_1 : wc.cell? ⟨gb159, 1, none⟩ = some (.int .i64 ((rd_T70 l0 x10_1).f1)) := (blk_cell BK159.out 1).trans rfl
                        have hcz26_2 : wc.cell? ⟨gb159, 2, none⟩ = some (.int .i64 ((rd_T70 l0 x10_1).f2)) := (blk_cell BK159.out 2).trans rfl
                        have hcz26_3 : wc.cell? ⟨gb159, 3, none⟩ = some (.slice A158_3 ((rd_T70 l0 x10_1).f3).length c158_3) := (blk_cell BK159.out 3).trans rfl
                        have hfz26_0 := blk_frozen BK159.out 0
                        have hfz26_1 := blk_frozen BK159.out 1
                        have hfz26_2 := blk_frozen BK159.out 2
                        have hfz26_3 := blk_frozen BK159.out 3
                        go_wp2_with (first | ((with_reducible refine gate_builtin (b := .append) (xs := #[.tmp 55, .tmp 57]) rfl ?_); (try (refine gate_guard (by rfl) ?_; dsimp only)); at_builtin; refine Kd.R_append_rows (Kd.int .u8) (w0 := w) w.heap.size rfl (.tmp 55) (.tmp 57) 39 5 (.int .u8 0) 1 rfl Tryz.underlying39 info5 rfl (by decide) (by omega) u4 x4_1 ((rd_T70 l0 x10_1).f3) _ _ _ (fun _ => True) (fun _ => False) rfl rfl ?aO ?aR (fun _ _ h => h) (fun _ h => h.elim) ?aF ?aB ?aS ?aL ?_; (case aR => repeat (first | exact (Kd.C_below HR158_3.out HB.out) | (with_reducible refine Kd.C_alloc ?_ _) | (with_reducible refine Kd.C_drewN ?_ _) | (with_reducible refine Kd.C_drew ?_))); (case aB => exact (by repeat (first | (with_reducible first | exact HB.out | apply below_alloc | apply pw_below_drewN | apply below_drew1 | refine below_set ?_ GE159.out) | exact HB.out))); (case aF => exact (fun _ _ => trivial)); (case aO => exact (by (with_reducible repeat (first | apply Kd.R_alloc | apply Kd.R_drewN | apply Kd.R_drew)); exact HO_4.out)); (case aS => exact (below_size (by repeat (first | (with_reducible first | exact HB.out | apply below_alloc | apply pw_below_drewN | apply below_drew1 | refine below_set ?_ GE159.out) | exact HB.out)))); (case aL => have := LMc25.out; omega); intro v163 w27 ho hb hg hat; rw [← Ny162.out] at ho; have n0_ := Aside0.mk (blk_grown (g := gb159) (o := .cells #[.int .i64 ((rd_T70 l0 x10_1).f0), .int .i64 ((rd_T70 l0 x10_1).f1), .int .i64 ((rd_T70 l0 x10_1).f2), .slice A158_3 ((rd_T70 l0 x10_1).f3).length c158_3] 70 (0, 0)) (by (with_reducible repeat (first | refine blk_drewN ?_ _ | refine blk_drew ?_ | refine blk_alloc ?_ _)); exact BK159.out) hg (Kd.R_ne HO_4.out BK159.out (by decide))); have n1_ := Aside0.mk (hb); have n2_ := Aside0.mk (ho); clear BK159; clear HB; clear HO_4; have BK159 := n0_; have HB := n1_; have HO164 := n2_; clear n0_ n1_ n2_; clear ho hb hg hat))
                        go_roundg kj4
                        case measure => have := HK1.out; have := HJ4.out; omega
                        case rel => exact ⟨(y162), (wrap64 (x10_1 + 1)), (by first | rfl | (simp; done) | (simp [*]; done)), H', ⟨by have := HK1.out; have := HJ4.out; omega⟩, ⟨by (with_reducible repeat (first | apply Kd.R_alloc | apply Kd.R_drewN | apply Kd.R_drew)); exact HO164.out⟩, ⟨by repeat (first | (with_reducible first | exact HB.out | apply below_alloc | apply pw_below_drewN | apply below_drew1 | refine below_set ?_ GE159.out) | exact HB.out)⟩⟩
                      · rw [if_neg c25] at H
                        exact absurd H (by simp)
                    · rw [if_neg c24] at H
                      have c24b0 : (x10_1 == (wrap64 ((l0.length : Int) - 1))) = false := by simpa using c24
                      (try (have c24b1 : decide (x10_1 = (wrap64 ((l0.length : Int) - 1))) = false := by simpa using c24))
                      (try (have c24b2 : (x10_1 == (wrap64 ((l0.length : Int) - 1))) = false := by simpa using c24))
                      (try (have c24b3 : ¬ (x10_1 = (wrap64 ((l0.length : Int) - 1))) := by simpa using c24))
                      clear c24
                      have f2b : (((rd_T70 l0 x10_1).f2) == 0) = false := by have h_ := c22b0; rw [c24b0] at h_; simpa using h_
                      by_cases c28 : (((rd_T70 l0 x10_1).f3).length : Int) < 242
                      · rw [if_pos c28] at H
                        have c28b0 : decide ((((rd_T70 l0 x10_1).f3).length : Int) < 242) = true := decide_eq_true c28
                        have c28b1 : decide (((rd_T70 l0 x10_1).f3).length < 242) = true := decide_eq_true (by omega)
                        clear c28
                        simp only [Option.some.injEq, Prod.mk.injEq] at H
                        obtain ⟨rfl, rfl⟩ := H
                        have hcz29_0 : wc.cell? ⟨gb159, 0, none⟩ = some (.int .i64 ((rd_T70 l0 x10_1).f0)) := (blk_cell BK159.out 0).trans rfl
                        have hcz29_1 : wc.cell? ⟨gb159, 1, none⟩ = some (.int .i64 ((rd_T70 l0 x10_1).f1)) := (blk_cell BK159.out 1).trans rfl
                        have hcz29_2 : wc.cell? ⟨gb159, 2, none⟩ = some (.int .i64 ((rd_T70 l0 x10_1).f2)) := (blk_cell BK159.out 2).trans rfl
                        have hcz29_3 : wc.cell? ⟨gb159, 3, none⟩ = some (.slice A158_3 ((rd_T70 l0 x10_1).f3).length c158_3) := (blk_cell BK159.out 3).trans rfl
                        have hfz29_0 := blk_frozen BK159.out 0
                        have hfz29_1 := blk_frozen BK159.out 1
                        have hfz29_2 := blk_frozen BK159.out 2
                        have hfz29_3 := blk_frozen BK159.out 3
                        go_wp2
                        go_ret2
                        exact ⟨_, by first | rfl | (simp [errW_none, errW_some] <;> rfl) | (simp [*, errW_none, errW_some] <;> rfl), by first | exact Kd.R_nil _ _ _ _ _ | exact Kd.N_nil _ _ _ _ _ | exact Kd.V_nil _ _ _ _ _ | exact Kd.Q_nil _ _ _ _ _ | exact Kd.S_nil _ _ _ _ _, by repeat (first | (with_reducible first | exact HB.out | apply below_alloc | apply pw_below_drewN | apply below_drew1 | refine below_set ?_ GE159.out) | exact HB.out)⟩
                      · rw [if_neg c28] at H
                        have c28b0 : decide ((((rd_T70 l0 x10_1).f3).length : Int) < 242) = false := decide_eq_false c28
                        have c28b1 : decide (((rd_T70 l0 x10_1).f3).length < 242) = false := decide_eq_false (by omega)
                        clear c28
                        by_cases c30 : x4_1.length + ((rd_T70 l0 x10_1).f3).length < 140737488355328
                        · rw [if_pos c30] at H
                          have LMc30 := Aside0.mk c30
                          clear c30
                          obtain ⟨y165, hy165⟩ : ∃ y_ : List Int, y_ = (x4_1 ++ ((rd_T70 l0 x10_1).f3)) := ⟨_, rfl⟩
                          replace H : (cell_Join.l0 kj4 l0 y165 l0 (l0.length : Int) (wrap64 (x10_1 + 1))) = some (r1, r2) := by first | (rw [hy165]; with_reducible exact H) | (have H2_ := (Option.bind_some _ _).symm.trans H; rw [hy165]; with_reducible exact H2_) | (have H2_ := (Option.bind_some _ _).symm.trans H; with_reducible exact H2_) | with_reducible exact H | (rw [hy165]; exact H) | exact H
                          have Ny165 := Aside0.mk hy165
                          clear hy165
                          have H' := Aside0.mk H
                          clear H
                          have hcz31_0 : wc.cell? ⟨gb159, 0, none⟩ = some (.int .i64 ((rd_T70 l0 x10_1).f0)) := (blk_cell BK159.out 0).trans rfl
                          have hcz31_1 : wc.cell? ⟨gb159, 1, none⟩ = some (.int .i64 ((rd_T70 l0 x10_1).f1)) := (blk_cell BK159.out 1).trans rfl
                          have hcz31_2 : wc.cell? ⟨gb159, 2, none⟩ = some (.int .i64 ((rd_T70 l0 x10_1).f2)) := (blk_cell BK159.out 2).trans rfl
                          have hcz31_3 : wc.cell? ⟨gb159, 3, none⟩ = some (.slice A158_3 ((rd_T70 l0 x10_1).f3).length c158_3) := (blk_cell BK159.out 3).trans rfl
                          have hfz31_0 := blk_frozen BK159.out 0
                          have hfz31_1 := blk_frozen BK159.out 1
                          have hfz31_2 := blk_frozen BK159.out 2
                          have hfz31_3 := blk_frozen BK159.out 3
                          go_wp2_with (first | ((with_reducible refine gate_builtin (b := .append) (xs := #[.tmp 55, .tmp 57]) rfl ?_); (try (refine gate_guard (by rfl) ?_; dsimp only)); at_builtin; refine Kd.R_append_rows (Kd.int .u8) (w0 := w) w.heap.size rfl (.tmp 55) (.tmp 57) 39 5 (.int .u8 0) 1 rfl Tryz.underlying39 info5 rfl (by decide) (by omega) u4 x4_1 ((rd_T70 l0 x10_1).f3) _ _ _ (fun _ => True) (fun _ => False) rfl rfl ?aO ?aR (fun _ _ h => h) (fun _ h => h.elim) ?aF ?aB ?aS ?aL ?_; (case aR => repeat (first | exact (Kd.C_below HR158_3.out HB.out) | (with_reducible refine Kd.C_alloc ?_ _) | (with_reducible refine Kd.C_drewN ?_ _) | (with_reducible refine Kd.C_drew ?_))); (case aB => exact (by repeat (first | (with_reducible first | exact HB.out | apply below_alloc | apply pw_below_drewN | apply below_drew1 | refine below_set ?_ GE159.out) | exact HB.out))); (case aF => exact (fun _ _ => trivial)); (case aO => exact (by (with_reducible repeat (first | apply Kd.R_alloc | apply Kd.R_drewN | apply Kd.R_drew)); exact HO_4.out)); (case aS => exact (below_size (by repeat (first | (with_reducible first | exact HB.out | apply below_alloc | apply pw_below_drewN | apply below_drew1 | refine below_set ?_ GE159.out) | exact HB.out)))); (case aL => have := LMc30.out; omega); intro v166 w32 ho hb hg hat; rw [← Ny165.out] at ho; have n0_ := Aside0.mk (blk_grown (g := gb159) (o := .cells #[.int .i64 ((rd_T70 l0 x10_1).f0), .int .i64 ((rd_T70 l0 x10_1).f1), .int .i64 ((rd_T70 l0 x10_1).f2), .slice A158_3 ((rd_T70 l0 x10_1).f3).length c158_3] 70 (0, 0)) (by (with_reducible repeat (first | refine blk_drewN ?_ _ | refine blk_drew ?_ | refine blk_alloc ?_ _)); exact BK159.out) hg (Kd.R_ne HO_4.out BK159.out (by decide))); have n1_ := Aside0.mk (hb); have n2_ := Aside0.mk (ho); clear BK159; clear HB; clear HO_4; have BK159 := n0_; have HB := n1_; have HO167 := n2_; clear n0_ n1_ n2_; clear ho hb hg hat))
                          go_roundg kj4
                          case measure => have := HK1.out; have := HJ4.out; omega
                          case rel => exact ⟨(y165), (wrap64 (x10_1 + 1)), (by first | rfl | (simp; done) | (simp [*]; done)), H', ⟨by have := HK1.out; have := HJ4.out; omega⟩, ⟨by (with_reducible repeat (first | apply Kd.R_alloc | apply Kd.R_drewN | apply Kd.R_drew)); exact HO167.out⟩, ⟨by repeat (first | (with_reducible first | exact HB.out | apply below_alloc | apply pw_below_drewN | apply below_drew1 | refine below_set ?_ GE159.out) | exact HB.out)⟩⟩
                        · rw [if_neg c30] at H
                          exact absurd H (by simp)
          · rw [if_neg c4] at H
            exact absurd H (by simp)
        · rw [if_neg c3] at H
          exact absurd H (by simp)
      · rw [if_neg c2] at H
        have c2b0 : decide (x10_1 < (l0.length : Int)) = false := decide_eq_false c2
        clear c2
        by_cases c33 : (l0.length : Int) = 0
        · rw [if_pos c33] at H
          have c33b0 : ((l0.length : Int) == 0) = true := beq_iff_eq.mpr c33
          have c33b1 : ((l0.length : Int) != 0) = false := bne_eq_false_iff_eq.mpr c33
          clear c33
          simp only [Option.some.injEq, Prod.mk.injEq] at H
          obtain ⟨rfl, rfl⟩ := H
          go_wp2
          go_ret2
          exact ⟨_, by first | rfl | (simp [errW_none, errW_some] <;> rfl) | (simp [*, errW_none, errW_some] <;> rfl), by first | exact Kd.R_nil _ _ _ _ _ | exact Kd.N_nil _ _ _ _ _ | exact Kd.V_nil _ _ _ _ _ | exact Kd.Q_nil _ _ _ _ _ | exact Kd.S_nil _ _ _ _ _, by repeat (first | (with_reducible first | exact HB.out | apply below_alloc | apply pw_below_drewN | apply below_drew1) | exact HB.out)⟩
        · rw [if_neg c33] at H
          have c33b0 : ((l0.length : Int) == 0) = false := beq_eq_false_iff_ne.mpr c33
          have c33b1 : ((l0.length : Int) != 0) = true := bne_iff_ne.mpr c33
          have c33b2 : ¬ (l0 = []) := fun h_ => c33 (by rw [h_]; rfl)
          by_cases c34 : (x4_1.length : Int) > 262144
          · rw [if_pos c34] at H
            have c34b0 : decide (262144 < (x4_1.length : Int)) = true := decide_eq_true c34
            have c34b1 : decide (262144 < x4_1.length) = true := decide_eq_true (by omega)
            clear c34
            simp only [Option.some.injEq, Prod.mk.injEq] at H
            obtain ⟨rfl, rfl⟩ := H
            obtain ⟨Ao35, co35, eo35⟩ := Kd.R_slice HO_4.out
            subst eo35
            go_wp2
            go_ret2
            exact ⟨_, by first | rfl | (simp [errW_none, errW_some] <;> rfl) | (simp [*, errW_none, errW_some] <;> rfl), by first | exact Kd.R_nil _ _ _ _ _ | exact Kd.N_nil _ _ _ _ _ | exact Kd.V_nil _ _ _ _ _ | exact Kd.Q_nil _ _ _ _ _ | exact Kd.S_nil _ _ _ _ _, by repeat (first | (with_reducible first | exact HB.out | apply below_alloc | apply pw_below_drewN | apply below_drew1) | exact HB.out)⟩
          · rw [if_neg c34] at H
            have c34b0 : decide (262144 < (x4_1.length : Int)) = false := decide_eq_false c34
            have c34b1 : decide (262144 < x4_1.length) = false := decide_eq_false (by omega)
            clear c34
            simp only [Option.some.injEq, Prod.mk.injEq] at H
            obtain ⟨rfl, rfl⟩ := H
            obtain ⟨Ao36, co36, eo36⟩ := Kd.R_slice HO_4.out
            subst eo36
            go_wp2
            go_ret2
            exact ⟨_, by first | rfl | (simp [errW_none, errW_some] <;> rfl) | (simp [*, errW_none, errW_some] <;> rfl), by (with_reducible repeat (first | apply Kd.R_alloc | apply Kd.R_drewN | apply Kd.R_drew)); exact HO_4.out, by repeat (first | (with_reducible first | exact HB.out | apply below_alloc | apply pw_below_drewN | apply below_drew1) | exact HB.out)⟩
end Go.Proofs.YtclneeamemofoaaGreat.PCellCuts
end
section
namespace Go.Proofs.YtclneeamemofoaaGreat.PCellCuts
open Go.RowKit Go.Proofs.YtclneeamemofoaaGreatW.PrintWords Go.Proofs.YtclneeamemofoaaGreatW.PrintLast Go.Proofs.YtclneeamemofoaaGreatW.PrintMore
attribute [local go_sem] max2_int min2_int max_two min_two max_three min_three max_four min_four
set_option linter.unusedVariables false
set_option linter.unusedSimpArgs false
set_option linter.ambiguousOpen false
open Go.Proofs.YtclneeamemofoaaGreat.PChain
def cell_Need.f (a0 : Int) : Option (Int) := PCellGets.cell_Need.f a0
def chantryref09_Need.f (a0 : Int) : Option (Int) := PCellGets.chantryref09_Need.f a0
theorem chantryref09_Need.calls (a0 : Int) (r : Int) (w : World) (h : chantryref09_Need.f a0 = some r) :
    Calls Tryz.prog 56 #[.int .i64 a0] w fun e w' => e = .returned (.int .i64 r) ∧ Drawn0 w w' := PCellGets.chantryref09_Need.calls a0 r w h
end Go.Proofs.YtclneeamemofoaaGreat.PCellCuts
end
