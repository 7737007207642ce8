/- Part 5 of the proof of SuperGets: lemmas alone. -/
import Derived.Test.YtopfjmeejpamjaaZSuperGetsP3
import Derived.KernelRfl
section
namespace Go.Proofs.Ytopfjmeejpamjaa.PSectorGets
open Go.RowKit Go.Proofs.YtopfjmeejpamjaaW.PrintWords Go.Proofs.YtopfjmeejpamjaaW.PrintLast Go.Proofs.YtopfjmeejpamjaaW.PrintMore
attribute [local go_sem] max2_int min2_int max_two min_two max_three min_three max_four min_four
set_option linter.unusedVariables false
set_option linter.unusedSimpArgs false
set_option linter.ambiguousOpen false
open Go.Proofs.Ytopfjmeejpamjaa.PSuper
def chantryref01_Fix.f (k : Nat) (a0 : Int) (a1 : Int) : Option (List Int × Int) := PCellGets.chantryref01_Fix.f k a0 a1
theorem chantryref01_Fix.mono : ∀ a0 a1 k, LeO (chantryref01_Fix.f k a0 a1) (chantryref01_Fix.f (k + 1) a0 a1) := PCellGets.chantryref01_Fix.mono
theorem chantryref01_Fix.calls (k : Nat) (a0 : Int) (a1 : Int) (r1 : List Int) (r2 : Int) (w : World) (h : chantryref01_Fix.f k a0 a1 = some (r1, r2)) :
    Calls Try.prog 29 #[.int .i64 a0, .int .i64 a1] w fun e w' => ∃ v0_ : Value, e = .returned (.tuple #[v0_, .int .i64 r2]) ∧ Kd.R (Kd.int .u8) 5 w' w.heap.size (fun _ => True) v0_ r1 ∧ Below w.heap.size w w' := PCellGets.chantryref01_Fix.calls k a0 a1 r1 r2 w h
def chantryref02_More.f (k : Nat) (a0 : Int) (l1 : List Int) : Option (Int) := PCellGets.chantryref02_More.f k a0 l1
theorem chantryref02_More.mono : ∀ a0 a1 k, LeO (chantryref02_More.f k a0 a1) (chantryref02_More.f (k + 1) a0 a1) := PCellGets.chantryref02_More.mono
theorem chantryref02_More.calls (k : Nat) (a0 : Int) (A1 : Option Addr) (c1 : Nat) (l1 : List Int) (r : Int) (w : World) (hr1 : Kd.C (Kd.int .u8) w A1 l1.length l1) (hc1 : l1.length ≤ c1) (h : chantryref02_More.f k a0 l1 = some r) :
    Calls Try.prog 97 #[.int .u32 a0, .slice A1 l1.length c1] w fun e w' => e = .returned (.int .u32 r) ∧ Drawn0 w w' := PCellGets.chantryref02_More.calls k a0 A1 c1 l1 r w hr1 hc1 h
def chantryref02_Sum.f (k : Nat) (l0 : List Int) : Option (Int) := PCellGets.chantryref02_Sum.f k l0
theorem chantryref02_Sum.mono : ∀ a0 k, LeO (chantryref02_Sum.f k a0) (chantryref02_Sum.f (k + 1) a0) := PCellGets.chantryref02_Sum.mono
theorem chantryref02_Sum.calls (k : Nat) (A0 : Option Addr) (c0 : Nat) (l0 : List Int) (r : Int) (w : World) (hr0 : Kd.C (Kd.int .u8) w A0 l0.length l0) (hc0 : l0.length ≤ c0) (h : chantryref02_Sum.f k l0 = some r) :
    Calls Try.prog 91 #[.slice A0 l0.length c0] w fun e w' => e = .returned (.int .u32 r) ∧ Drawn0 w w' := PCellGets.chantryref02_Sum.calls k A0 c0 l0 r w hr0 hc0 h
def chantryref02_Seal.f (k : Nat) (l0 : List Int) : Option (List Int) := PCellGets.chantryref02_Seal.f k l0
theorem chantryref02_Seal.mono : ∀ a0 k, LeO (chantryref02_Seal.f k a0) (chantryref02_Seal.f (k + 1) a0) := PCellGets.chantryref02_Seal.mono
theorem chantryref02_Seal.calls (k : Nat) (A0 : Option Addr) (c0 : Nat) (l0 : List Int) (r : List Int) (w : World) (hr0 : Kd.C (Kd.int .u8) w A0 l0.length l0) (hc0 : l0.length ≤ c0) (h : chantryref02_Seal.f k l0 = some r) :
    Calls Try.prog 71 #[.slice A0 l0.length c0] w fun e w' => ∃ v0_ : Value, e = .returned (v0_) ∧ Kd.R (Kd.int .u8) 5 w' w.heap.size (fun _ => True) v0_ r ∧ Below w.heap.size w w' := PCellGets.chantryref02_Seal.calls k A0 c0 l0 r w hr0 hc0 h
def chantryref07_may.f (a0_0 : Int) (a0_1 : Int) (a0_2 : Int) (a0_3 : Int) (l0_4 : List Int) : Option (Bool) := if a0_0 ≥ 1 then (if a0_0 ≤ 255 then (if a0_1 ≥ 0 then (if a0_1 ≤ 2147483647 then (if a0_2 ≥ 0 then (if a0_2 ≤ 2147483647 then (if a0_3 ≥ 0 then (if a0_3 ≤ 65535 then (some (decide ((l0_4.length : Int) ≤ 48))) else (some false)) else (some false)) else (some false)) else (some false)) else (some false)) else (some false)) else (some false)) else (some false)
set_option maxHeartbeats 8000000 in
set_option maxRecDepth 100000 in
theorem chantryref07_may.calls (a0_0 : Int) (a0_1 : Int) (a0_2 : Int) (a0_3 : Int) (A0_4 : Option Addr) (c0_4 : Nat) (l0_4 : List Int) (r : Bool) (w : World) (hr0_4 : Kd.C (Kd.int .u8) w A0_4 l0_4.length l0_4) (hc0_4 : l0_4.length ≤ c0_4) (h : chantryref07_may.f a0_0 a0_1 a0_2 a0_3 l0_4 = some r) :
    Calls Try.prog 70 #[.agg #[.int .i64 a0_0, .int .i64 a0_1, .int .i64 a0_2, .int .i64 a0_3, .slice A0_4 l0_4.length c0_4]] w fun e w' => e = .returned (.bool r) ∧ Below w.heap.size w w' := by
  have hu69 := Try.underlying69
  have HR0_4 := Aside0.mk hr0_4
  have HC0_4 := Aside0.mk hc0_4
  clear hr0_4 hc0_4
  have HB := Aside0.mk (Below.refl w.heap.size w)
  have H : (if a0_0 ≥ 1 then (if a0_0 ≤ 255 then (if a0_1 ≥ 0 then (if a0_1 ≤ 2147483647 then (if a0_2 ≥ 0 then (if a0_2 ≤ 2147483647 then (if a0_3 ≥ 0 then (if a0_3 ≤ 65535 then (some (decide ((l0_4.length : Int) ≤ 48))) else (some false)) else (some false)) else (some false)) else (some false)) else (some false)) else (some false)) else (some false)) else (some false)) = some r := h
  clear h
  by_cases c2 : a0_0 ≥ 1
  · rw [if_pos c2] at H
    have c2b0 : decide (1 ≤ a0_0) = true := decide_eq_true c2
    clear c2
    by_cases c3 : a0_0 ≤ 255
    · rw [if_pos c3] at H
      have c3b0 : decide (a0_0 ≤ 255) = true := decide_eq_true c3
      clear c3
      by_cases c4 : a0_1 ≥ 0
      · rw [if_pos c4] at H
        have c4b0 : decide (0 ≤ a0_1) = true := decide_eq_true c4
        clear c4
        by_cases c5 : a0_1 ≤ 2147483647
        · rw [if_pos c5] at H
          have c5b0 : decide (a0_1 ≤ 2147483647) = true := decide_eq_true c5
          clear c5
          by_cases c6 : a0_2 ≥ 0
          · rw [if_pos c6] at H
            have c6b0 : decide (0 ≤ a0_2) = true := decide_eq_true c6
            clear c6
            by_cases c7 : a0_2 ≤ 2147483647
            · rw [if_pos c7] at H
              have c7b0 : decide (a0_2 ≤ 2147483647) = true := decide_eq_true c7
              clear c7
              by_cases c8 : a0_3 ≥ 0
              · rw [if_pos c8] at H
                have c8b0 : decide (0 ≤ a0_3) = true := decide_eq_true c8
                clear c8
                by_cases c9 : a0_3 ≤ 65535
                · rw [if_pos c9] at H
                  have c9b0 : decide (a0_3 ≤ 65535) = true := decide_eq_true c9
                  clear c9
                  obtain rfl := Option.some.inj H
                  go_enter Try.func70, Try.ntmps70
                  go_wp2_with (first | ((with_reducible refine gate_dst (N := 1) rfl ?_); (try (refine gate_guard (by rfl) ?_; dsimp only)); refine box_event ?hg (N := 1) ?hd (cs := #[.int .i64 a0_0, .int .i64 a0_1, .int .i64 a0_2, .int .i64 a0_3, .slice A0_4 l0_4.length c0_4]) (t := 69) ?hr ?_; (case hd => rfl); (case hg => rfl); (case hr => first | (go_simp; done) | (go_simp; rfl)); intro gb161 hg w10 hbox hb; have n0_ := Aside0.mk (below_step (by repeat (first | (with_reducible first | exact HB.out | apply below_alloc | apply pw_below_drewN | apply below_drew1) | exact HB.out)) hb); have n1_ := Aside0.mk (hbox); have n2_ := Aside0.mk ((by rw [hg]; exact (below_size (by repeat (first | (with_reducible first | exact HB.out | apply below_alloc | apply pw_below_drewN | apply below_drew1) | exact HB.out))) : w.heap.size ≤ gb161)); have n3_ := Aside0.mk ((by rw [hg]; exact (below_size (by repeat (first | (with_reducible first | exact HB.out | apply below_alloc | apply pw_below_drewN | apply below_drew1) | exact HB.out))) : w.heap.size ≤ gb161)); clear HB; have HB := n0_; have BK161 := n1_; have GW161 := n2_; have GE161 := n3_; clear n0_ n1_ n2_ n3_; clear hb hbox hg; have hcz11_0 : w10.cell? ⟨gb161, 0, none⟩ = some (.int .i64 a0_0) := (blk_cell BK161.out 0).trans rfl; have hcz11_1 : w10.cell? ⟨gb161, 1, none⟩ = some (.int .i64 a0_1) := (blk_cell BK161.out 1).trans rfl; have hcz11_2 : w10.cell? ⟨gb161, 2, none⟩ = some (.int .i64 a0_2) := (blk_cell BK161.out 2).trans rfl; have hcz11_3 : w10.cell? ⟨gb161, 3, none⟩ = some (.int .i64 a0_3) := (blk_cell BK161.out 3).trans rfl; have hcz11_4 : w10.cell? ⟨gb161, 4, none⟩ = some (.slice A0_4 l0_4.length c0_4) := (blk_cell BK161.out 4).trans rfl; have hfz11_0 := blk_frozen BK161.out 0; have hfz11_1 := blk_frozen BK161.out 1; have hfz11_2 := blk_frozen BK161.out 2; have hfz11_3 := blk_frozen BK161.out 3; have hfz11_4 := blk_frozen BK161.out 4))
                  go_ret
                  exact ⟨by first | rfl | (simp [errW_none, errW_some] <;> rfl) | (simp [*, errW_none, errW_some] <;> rfl), by repeat (first | (with_reducible first | exact HB.out | apply below_alloc | apply pw_below_drewN | apply below_drew1 | refine below_set ?_ GE161.out) | exact HB.out)⟩
                · rw [if_neg c9] at H
                  have c9b0 : decide (a0_3 ≤ 65535) = false := decide_eq_false c9
                  clear c9
                  obtain rfl := Option.some.inj H
                  go_enter Try.func70, Try.ntmps70
                  go_wp2_with (first | ((with_reducible refine gate_dst (N := 1) rfl ?_); (try (refine gate_guard (by rfl) ?_; dsimp only)); refine box_event ?hg (N := 1) ?hd (cs := #[.int .i64 a0_0, .int .i64 a0_1, .int .i64 a0_2, .int .i64 a0_3, .slice A0_4 l0_4.length c0_4]) (t := 69) ?hr ?_; (case hd => rfl); (case hg => rfl); (case hr => first | (go_simp; done) | (go_simp; rfl)); intro gb161 hg w12 hbox hb; have n0_ := Aside0.mk (below_step (by repeat (first | (with_reducible first | exact HB.out | apply below_alloc | apply pw_below_drewN | apply below_drew1) | exact HB.out)) hb); have n1_ := Aside0.mk (hbox); have n2_ := Aside0.mk ((by rw [hg]; exact (below_size (by repeat (first | (with_reducible first | exact HB.out | apply below_alloc | apply pw_below_drewN | apply below_drew1) | exact HB.out))) : w.heap.size ≤ gb161)); have n3_ := Aside0.mk ((by rw [hg]; exact (below_size (by repeat (first | (with_reducible first | exact HB.out | apply below_alloc | apply pw_below_drewN | apply below_drew1) | exact HB.out))) : w.heap.size ≤ gb161)); clear HB; have HB := n0_; have BK161 := n1_; have GW161 := n2_; have GE161 := n3_; clear n0_ n1_ n2_ n3_; clear hb hbox hg; have hcz13_0 : w12.cell? ⟨gb161, 0, none⟩ = some (.int .i64 a0_0) := (blk_cell BK161.out 0).trans rfl; have hcz13_1 : w12.cell? ⟨gb161, 1, none⟩ = some (.int .i64 a0_1) := (blk_cell BK161.out 1).trans rfl; have hcz13_2 : w12.cell? ⟨gb161, 2, none⟩ = some (.int .i64 a0_2) := (blk_cell BK161.out 2).trans rfl; have hcz13_3 : w12.cell? ⟨gb161, 3, none⟩ = some (.int .i64 a0_3) := (blk_cell BK161.out 3).trans rfl; have hcz13_4 : w12.cell? ⟨gb161, 4, none⟩ = some (.slice A0_4 l0_4.length c0_4) := (blk_cell BK161.out 4).trans rfl; have hfz13_0 := blk_frozen BK161.out 0; have hfz13_1 := blk_frozen BK161.out 1; have hfz13_2 := blk_frozen BK161.out 2; have hfz13_3 := blk_frozen BK161.out 3; have hfz13_4 := blk_frozen BK161.out 4))
                  go_ret
                  exact ⟨by first | rfl | (simp [errW_none, errW_some] <;> rfl) | (simp [*, errW_none, errW_some] <;> rfl), by repeat (first | (with_reducible first | exact HB.out | apply below_alloc | apply pw_below_drewN | apply below_drew1 | refine below_set ?_ GE161.out) | exact HB.out)⟩
              · rw [if_neg c8] at H
                have c8b0 : decide (0 ≤ a0_3) = false := decide_eq_false c8
                clear c8
                obtain rfl := Option.some.inj H
                go_enter Try.func70, Try.ntmps70
                go_wp2_with (first | ((with_reducible refine gate_dst (N := 1) rfl ?_); (try (refine gate_guard (by rfl) ?_; dsimp only)); refine box_event ?hg (N := 1) ?hd (cs := #[.int .i64 a0_0, .int .i64 a0_1, .int .i64 a0_2, .int .i64 a0_3, .slice A0_4 l0_4.length c0_4]) (t := 69) ?hr ?_; (case hd => rfl); (case hg => rfl); (case hr => first | (go_simp; done) | (go_simp; rfl)); intro gb161 hg w14 hbox hb; have n0_ := Aside0.mk (below_step (by repeat (first | (with_reducible first | exact HB.out | apply below_alloc | apply pw_below_drewN | apply below_drew1) | exact HB.out)) hb); have n1_ := Aside0.mk (hbox); have n2_ := Aside0.mk ((by rw [hg]; exact (below_size (by repeat (first | (with_reducible first | exact HB.out | apply below_alloc | apply pw_below_drewN | apply below_drew1) | exact HB.out))) : w.heap.size ≤ gb161)); have n3_ := Aside0.mk ((by rw [hg]; exact (below_size (by repeat (first | (with_reducible first | exact HB.out | apply below_alloc | apply pw_below_drewN | apply below_drew1) | exact HB.out))) : w.heap.size ≤ gb161)); clear HB; have HB := n0_; have BK161 := n1_; have GW161 := n2_; have GE161 := n3_; clear n0_ n1_ n2_ n3_; clear hb hbox hg; have hcz15_0 : w14.cell? ⟨gb161, 0, none⟩ = some (.int .i64 a0_0) := (blk_cell BK161.out 0).trans rfl; have hcz15_1 : w14.cell? ⟨gb161, 1, none⟩ = some (.int .i64 a0_1) := (blk_cell BK161.out 1).trans rfl; have hcz15_2 : w14.cell? ⟨gb161, 2, none⟩ = some (.int .i64 a0_2) := (blk_cell BK161.out 2).trans rfl; have hcz15_3 : w14.cell? ⟨gb161, 3, none⟩ = some (.int .i64 a0_3) := (blk_cell BK161.out 3).trans rfl; have hcz15_4 : w14.cell? ⟨gb161, 4, none⟩ = some (.slice A0_4 l0_4.length c0_4) := (blk_cell BK161.out 4).trans rfl; have hfz15_0 := blk_frozen BK161.out 0; have hfz15_1 := blk_frozen BK161.out 1; have hfz15_2 := blk_frozen BK161.out 2; have hfz15_3 := blk_frozen BK161.out 3; have hfz15_4 := blk_frozen BK161.out 4))
                go_ret
                exact ⟨by first | rfl | (simp [errW_none, errW_some] <;> rfl) | (simp [*, errW_none, errW_some] <;> rfl), by repeat (first | (with_reducible first | exact HB.out | apply below_alloc | apply pw_below_drewN | apply below_drew1 | refine below_set ?_ GE161.out) | exact HB.out)⟩
            · rw [if_neg c7] at H
              have c7b0 : decide (a0_2 ≤ 2147483647) = false := decide_eq_false c7
              clear c7
              obtain rfl := Option.some.inj H
              go_enter Try.func70, Try.ntmps70
              go_wp2_with (first | ((with_reducible refine gate_dst (N := 1) rfl ?_); (try (refine gate_guard (by rfl) ?_; dsimp only)); refine box_event ?hg (N := 1) ?hd (cs := #[.int .i64 a0_0, .int .i64 a0_1, .int .i64 a0_2, .int .i64 a0_3, .slice A0_4 l0_4.length c0_4]) (t := 69) ?hr ?_; (case hd => rfl); (case hg => rfl); (case hr => first | (go_simp; done) | (go_simp; rfl)); intro gb161 hg w16 hbox hb; have n0_ := Aside0.mk (below_step (by repeat (first | (with_reducible first | exact HB.out | apply below_alloc | apply pw_below_drewN | apply below_drew1) | exact HB.out)) hb); have n1_ := Aside0.mk (hbox); have n2_ := Aside0.mk ((by rw [hg]; exact (below_size (by repeat (first | (with_reducible first | exact HB.out | apply below_alloc | apply pw_below_drewN | apply below_drew1) | exact HB.out))) : w.heap.size ≤ gb161)); have n3_ := Aside0.mk ((by rw [hg]; exact (below_size (by repeat (first | (with_reducible first | exact HB.out | apply below_alloc | apply pw_below_drewN | apply below_drew1) | exact HB.out))) : w.heap.size ≤ gb161)); clear HB; have HB := n0_; have BK161 := n1_; have GW161 := n2_; have GE161 := n3_; clear n0_ n1_ n2_ n3_; clear hb hbox hg; have hcz17_0 : w16.cell? ⟨gb161, 0, none⟩ = some (.int .i64 a0_0) := (blk_cell BK161.out 0).trans rfl; have hcz17_1 : w16.cell? ⟨gb161, 1, none⟩ = some (.int .i64 a0_1) := (blk_cell BK161.out 1).trans rfl; have hcz17_2 : w16.cell? ⟨gb161, 2, none⟩ = some (.int .i64 a0_2) := (blk_cell BK161.out 2).trans rfl; have hcz17_3 : w16.cell? ⟨gb161, 3, none⟩ = some (.int .i64 a0_3) := (blk_cell BK161.out 3).trans rfl; have hcz17_4 : w16.cell? ⟨gb161, 4, none⟩ = some (.slice A0_4 l0_4.length c0_4) := (blk_cell BK161.out 4).trans rfl; have hfz17_0 := blk_frozen BK161.out 0; have hfz17_1 := blk_frozen BK161.out 1; have hfz17_2 := blk_frozen BK161.out 2; have hfz17_3 := blk_frozen BK161.out 3; have hfz17_4 := blk_frozen BK161.out 4))
              go_ret
              exact ⟨by first | rfl | (simp [errW_none, errW_some] <;> rfl) | (simp [*, errW_none, errW_some] <;> rfl), by repeat (first | (with_reducible first | exact HB.out | apply below_alloc | apply pw_below_drewN | apply below_drew1 | refine below_set ?_ GE161.out) | exact HB.out)⟩
          · rw [if_neg c6] at H
            have c6b0 : decide (0 ≤ a0_2) = false := decide_eq_false c6
            clear c6
            obtain rfl := Option.some.inj H
            go_enter Try.func70, Try.ntmps70
            go_wp2_with (first | ((with_reducible refine gate_dst (N := 1) rfl ?_); (try (refine gate_guard (by rfl) ?_; dsimp only)); refine box_event ?hg (N := 1) ?hd (cs := #[.int .i64 a0_0, .int .i64 a0_1, .int .i64 a0_2, .int .i64 a0_3, .slice A0_4 l0_4.length c0_4]) (t := 69) ?hr ?_; (case hd => rfl); (case hg => rfl); (case hr => first | (go_simp; done) | (go_simp; rfl)); intro gb161 hg w18 hbox hb; have n0_ := Aside0.mk (below_step (by repeat (first | (with_reducible first | exact HB.out | apply below_alloc | apply pw_below_drewN | apply below_drew1) | exact HB.out)) hb); have n1_ := Aside0.mk (hbox); have n2_ := Aside0.mk ((by rw [hg]; exact (below_size (by repeat (first | (with_reducible first | exact HB.out | apply below_alloc | apply pw_below_drewN | apply below_drew1) | exact HB.out))) : w.heap.size ≤ gb161)); have n3_ := Aside0.mk ((by rw [hg]; exact (below_size (by repeat (first | (with_reducible first | exact HB.out | apply below_alloc | apply pw_below_drewN | apply below_drew1) | exact HB.out))) : w.heap.size ≤ gb161)); clear HB; have HB := n0_; have BK161 := n1_; have GW161 := n2_; have GE161 := n3_; clear n0_ n1_ n2_ n3_; clear hb hbox hg; have hcz19_0 : w18.cell? ⟨gb161, 0, none⟩ = some (.int .i64 a0_0) := (blk_cell BK161.out 0).trans rfl; have hcz19_1 : w18.cell? ⟨gb161, 1, none⟩ = some (.int .i64 a0_1) := (blk_cell BK161.out 1).trans rfl; have hcz19_2 : w18.cell? ⟨gb161, 2, none⟩ = some (.int .i64 a0_2) := (blk_cell BK161.out 2).trans rfl; have hcz19_3 : w18.cell? ⟨gb161, 3, none⟩ = some (.int .i64 a0_3) := (blk_cell BK161.out 3).trans rfl; have hcz19_4 : w18.cell? ⟨gb161, 4, none⟩ = some (.slice A0_4 l0_4.length c0_4) := (blk_cell BK161.out 4).trans rfl; have hfz19_0 := blk_frozen BK161.out 0; have hfz19_1 := blk_frozen BK161.out 1; have hfz19_2 := blk_frozen BK161.out 2; have hfz19_3 := blk_frozen BK161.out 3; have hfz19_4 := blk_frozen BK161.out 4))
            go_ret
            exact ⟨by first | rfl | (simp [errW_none, errW_some] <;> rfl) | (simp [*, errW_none, errW_some] <;> rfl), by repeat (first | (with_reducible first | exact HB.out | apply below_alloc | apply pw_below_drewN | apply below_drew1 | refine below_set ?_ GE161.out) | exact HB.out)⟩
        · rw [if_neg c5] at H
          have c5b0 : decide (a0_1 ≤ 2147483647) = false := decide_eq_false c5
          clear c5
          obtain rfl := Option.some.inj H
          go_enter Try.func70, Try.ntmps70
          go_wp2_with (first | ((with_reducible refine gate_dst (N := 1) rfl ?_); (try (refine gate_guard (by rfl) ?_; dsimp only)); refine box_event ?hg (N := 1) ?hd (cs := #[.int .i64 a0_0, .int .i64 a0_1, .int .i64 a0_2, .int .i64 a0_3, .slice A0_4 l0_4.length c0_4]) (t := 69) ?hr ?_; (case hd => rfl); (case hg => rfl); (case hr => first | (go_simp; done) | (go_simp; rfl)); intro gb161 hg w20 hbox hb; have n0_ := Aside0.mk (below_step (by repeat (first | (with_reducible first | exact HB.out | apply below_alloc | apply pw_below_drewN | apply below_drew1) | exact HB.out)) hb); have n1_ := Aside0.mk (hbox); have n2_ := Aside0.mk ((by rw [hg]; exact (below_size (by repeat (first | (with_reducible first | exact HB.out | apply below_alloc | apply pw_below_drewN | apply below_drew1) | exact HB.out))) : w.heap.size ≤ gb161)); have n3_ := Aside0.mk ((by rw [hg]; exact (below_size (by repeat (first | (with_reducible first | exact HB.out | apply below_alloc | apply pw_below_drewN | apply below_drew1) | exact HB.out))) : w.heap.size ≤ gb161)); clear HB; have HB := n0_; have BK161 := n1_; have GW161 := n2_; have GE161 := n3_; clear n0_ n1_ n2_ n3_; clear hb hbox hg; have hcz21_0 : w20.cell? ⟨gb161, 0, none⟩ = some (.int .i64 a0_0) := (blk_cell BK161.out 0).trans rfl; have hcz21_1 : w20.cell? ⟨gb161, 1, none⟩ = some (.int .i64 a0_1) := (blk_cell BK161.out 1).trans rfl; have hcz21_2 : w20.cell? ⟨gb161, 2, none⟩ = some (.int .i64 a0_2) := (blk_cell BK161.out 2).trans rfl; have hcz21_3 : w20.cell? ⟨gb161, 3, none⟩ = some (.int .i64 a0_3) := (blk_cell BK161.out 3).trans rfl; have hcz21_4 : w20.cell? ⟨gb161, 4, none⟩ = some (.slice A0_4 l0_4.length c0_4) := (blk_cell BK161.out 4).trans rfl; have hfz21_0 := blk_frozen BK161.out 0; have hfz21_1 := blk_frozen BK161.out 1; have hfz21_2 := blk_frozen BK161.out 2; have hfz21_3 := blk_frozen BK161.out 3; have hfz21_4 := blk_frozen BK161.out 4))
          go_ret
          exact ⟨by first | rfl | (simp [errW_none, errW_some] <;> rfl) | (simp [*, errW_none, errW_some] <;> rfl), by repeat (first | (with_reducible first | exact HB.out | apply below_alloc | apply pw_below_drewN | apply below_drew1 | refine below_set ?_ GE161.out) | exact HB.out)⟩
      · rw [if_neg c4] at H
        have c4b0 : decide (0 ≤ a0_1) = false := decide_eq_false c4
        clear c4
        obtain rfl := Option.some.inj H
        go_enter Try.func70, Try.ntmps70
        go_wp2_with (first | ((with_reducible refine gate_dst (N := 1) rfl ?_); (try (refine gate_guard (by rfl) ?_; dsimp only)); refine box_event ?hg (N := 1) ?hd (cs := #[.int .i64 a0_0, .int .i64 a0_1, .int .i64 a0_2, .int .i64 a0_3, .slice A0_4 l0_4.length c0_4]) (t := 69) ?hr ?_; (case hd => rfl); (case hg => rfl); (case hr => first | (go_simp; done) | (go_simp; rfl)); intro gb161 hg w22 hbox hb; have n0_ := Aside0.mk (below_step (by repeat (first | (with_reducible first | exact HB.out | apply below_alloc | apply pw_below_drewN | apply below_drew1) | exact HB.out)) hb); have n1_ := Aside0.mk (hbox); have n2_ := Aside0.mk ((by rw [hg]; exact (below_size (by repeat (first | (with_reducible first | exact HB.out | apply below_alloc | apply pw_below_drewN | apply below_drew1) | exact HB.out))) : w.heap.size ≤ gb161)); have n3_ := Aside0.mk ((by rw [hg]; exact (below_size (by repeat (first | (with_reducible first | exact HB.out | apply below_alloc | apply pw_below_drewN | apply below_drew1) | exact HB.out))) : w.heap.size ≤ gb161)); clear HB; have HB := n0_; have BK161 := n1_; have GW161 := n2_; have GE161 := n3_; clear n0_ n1_ n2_ n3_; clear hb hbox hg; have hcz23_0 : w22.cell? ⟨gb161, 0, none⟩ = some (.int .i64 a0_0) := (blk_cell BK161.out 0).trans rfl; have hcz23_1 : w22.cell? ⟨gb161, 1, none⟩ = some (.int .i64 a0_1) := (blk_cell BK161.out 1).trans rfl; have hcz23_2 : w22.cell? ⟨gb161, 2, none⟩ = some (.int .i64 a0_2) := (blk_cell BK161.out 2).trans rfl; have hcz23_3 : w22.cell? ⟨gb161, 3, none⟩ = some (.int .i64 a0_3) := (blk_cell BK161.out 3).trans rfl; have hcz23_4 : w22.cell? ⟨gb161, 4, none⟩ = some (.slice A0_4 l0_4.length c0_4) := (blk_cell BK161.out 4).trans rfl; have hfz23_0 := blk_frozen BK161.out 0; have hfz23_1 := blk_frozen BK161.out 1; have hfz23_2 := blk_frozen BK161.out 2; have hfz23_3 := blk_frozen BK161.out 3; have hfz23_4 := blk_frozen BK161.out 4))
        go_ret
        exact ⟨by first | rfl | (simp [errW_none, errW_some] <;> rfl) | (simp [*, errW_none, errW_some] <;> rfl), by repeat (first | (with_reducible first | exact HB.out | apply below_alloc | apply pw_below_drewN | apply below_drew1 | refine below_set ?_ GE161.out) | exact HB.out)⟩
    · rw [if_neg c3] at H
      have c3b0 : decide (a0_0 ≤ 255) = false := decide_eq_false c3
      clear c3
      obtain rfl := Option.some.inj H
      go_enter Try.func70, Try.ntmps70
      go_wp2_with (first | ((with_reducible refine gate_dst (N := 1) rfl ?_); (try (refine gate_guard (by rfl) ?_; dsimp only)); refine box_event ?hg (N := 1) ?hd (cs := #[.int .i64 a0_0, .int .i64 a0_1, .int .i64 a0_2, .int .i64 a0_3, .slice A0_4 l0_4.length c0_4]) (t := 69) ?hr ?_; (case hd => rfl); (case hg => rfl); (case hr => first | (go_simp; done) | (go_simp; rfl)); intro gb161 hg w24 hbox hb; have n0_ := Aside0.mk (below_step (by repeat (first | (with_reducible first | exact HB.out | apply below_alloc | apply pw_below_drewN | apply below_drew1) | exact HB.out)) hb); have n1_ := Aside0.mk (hbox); have n2_ := Aside0.mk ((by rw [hg]; exact (below_size (by repeat (first | (with_reducible first | exact HB.out | apply below_alloc | apply pw_below_drewN | apply below_drew1) | exact HB.out))) : w.heap.size ≤ gb161)); have n3_ := Aside0.mk ((by rw [hg]; exact (below_size (by repeat (first | (with_reducible first | exact HB.out | apply below_alloc | apply pw_below_drewN | apply below_drew1) | exact HB.out))) : w.heap.size ≤ gb161)); clear HB; have HB := n0_; have BK161 := n1_; have GW161 := n2_; have GE161 := n3_; clear n0_ n1_ n2_ n3_; clear hb hbox hg; have hcz25_0 : w24.cell? ⟨gb161, 0, none⟩ = some (.int .i64 a0_0) := (blk_cell BK161.out 0).trans rfl; have hcz25_1 : w24.cell? ⟨gb161, 1, none⟩ = some (.int .i64 a0_1) := (blk_cell BK161.out 1).trans rfl; have hcz25_2 : w24.cell? ⟨gb161, 2, none⟩ = some (.int .i64 a0_2) := (blk_cell BK161.out 2).trans rfl; have hcz25_3 : w24.cell? ⟨gb161, 3, none⟩ = some (.int .i64 a0_3) := (blk_cell BK161.out 3).trans rfl; have hcz25_4 : w24.cell? ⟨gb161, 4, none⟩ = some (.slice A0_4 l0_4.length c0_4) := (blk_cell BK161.out 4).trans rfl; have hfz25_0 := blk_frozen BK161.out 0; have hfz25_1 := blk_frozen BK161.out 1; have hfz25_2 := blk_frozen BK161.out 2; have hfz25_3 := blk_frozen BK161.out 3; have hfz25_4 := blk_frozen BK161.out 4))
      go_ret
      exact ⟨by first | rfl | (simp [errW_none, errW_some] <;> rfl) | (simp [*, errW_none, errW_some] <;> rfl), by repeat (first | (with_reducible first | exact HB.out | apply below_alloc | apply pw_below_drewN | apply below_drew1 | refine below_set ?_ GE161.out) | exact HB.out)⟩
  · rw [if_neg c2] at H
    have c2b0 : decide (1 ≤ a0_0) = false := decide_eq_false c2
    clear c2
    obtain rfl := Option.some.inj H
    go_enter Try.func70, Try.ntmps70
    go_wp2_with (first | ((with_reducible refine gate_dst (N := 1) rfl ?_); (try (refine gate_guard (by rfl) ?_; dsimp only)); refine box_event ?hg (N := 1) ?hd (cs := #[.int .i64 a0_0, .int .i64 a0_1, .int .i64 a0_2, .int .i64 a0_3, .slice A0_4 l0_4.length c0_4]) (t := 69) ?hr ?_; (case hd => rfl); (case hg => rfl); (case hr => first | (go_simp; done) | (go_simp; rfl)); intro gb161 hg w26 hbox hb; have n0_ := Aside0.mk (below_step (by repeat (first | (with_reducible first | exact HB.out | apply below_alloc | apply pw_below_drewN | apply below_drew1) | exact HB.out)) hb); have n1_ := Aside0.mk (hbox); have n2_ := Aside0.mk ((by rw [hg]; exact (below_size (by repeat (first | (with_reducible first | exact HB.out | apply below_alloc | apply pw_below_drewN | apply below_drew1) | exact HB.out))) : w.heap.size ≤ gb161)); have n3_ := Aside0.mk ((by rw [hg]; exact (below_size (by repeat (first | (with_reducible first | exact HB.out | apply below_alloc | apply pw_below_drewN | apply below_drew1) | exact HB.out))) : w.heap.size ≤ gb161)); clear HB; have HB := n0_; have BK161 := n1_; have GW161 := n2_; have GE161 := n3_; clear n0_ n1_ n2_ n3_; clear hb hbox hg; have hcz27_0 : w26.cell? ⟨gb161, 0, none⟩ = some (.int .i64 a0_0) := (blk_cell BK161.out 0).trans rfl; have hcz27_1 : w26.cell? ⟨gb161, 1, none⟩ = some (.int .i64 a0_1) := (blk_cell BK161.out 1).trans rfl; have hcz27_2 : w26.cell? ⟨gb161, 2, none⟩ = some (.int .i64 a0_2) := (blk_cell BK161.out 2).trans rfl; have hcz27_3 : w26.cell? ⟨gb161, 3, none⟩ = some (.int .i64 a0_3) := (blk_cell BK161.out 3).trans rfl; have hcz27_4 : w26.cell? ⟨gb161, 4, none⟩ = some (.slice A0_4 l0_4.length c0_4) := (blk_cell BK161.out 4).trans rfl; have hfz27_0 := blk_frozen BK161.out 0; have hfz27_1 := blk_frozen BK161.out 1; have hfz27_2 := blk_frozen BK161.out 2; have hfz27_3 := blk_frozen BK161.out 3; have hfz27_4 := blk_frozen BK161.out 4))
    go_ret
    exact ⟨by first | rfl | (simp [errW_none, errW_some] <;> rfl) | (simp [*, errW_none, errW_some] <;> rfl), by repeat (first | (with_reducible first | exact HB.out | apply below_alloc | apply pw_below_drewN | apply below_drew1 | refine below_set ?_ GE161.out) | exact HB.out)⟩
end Go.Proofs.Ytopfjmeejpamjaa.PSectorGets
end
section
namespace Go.Proofs.Ytopfjmeejpamjaa.PSectorGets
open Go.RowKit Go.Proofs.YtopfjmeejpamjaaW.PrintWords Go.Proofs.YtopfjmeejpamjaaW.PrintLast Go.Proofs.YtopfjmeejpamjaaW.PrintMore
attribute [local go_sem] max2_int min2_int max_two min_two max_three min_three max_four min_four
set_option linter.unusedVariables false
set_option linter.unusedSimpArgs false
set_option linter.ambiguousOpen false
open Go.Proofs.Ytopfjmeejpamjaa.PSuper
def chantryref07_Put.l0 : Nat → List Int → Option (List Int × Int)
  | 0, _ => none
  | k + 1, x10 => if (x10.length : Int) < 60 then (if x10.length < 140737488355328 then (chantryref07_Put.l0 k (x10 ++ [0])) else (none)) else ((chantryref02_Seal.f k x10).bind fun t209 => (some (t209, 0)))
def chantryref07_Put.f (k : Nat) (a0_0 : Int) (a0_1 : Int) (a0_2 : Int) (a0_3 : Int) (l0_4 : List Int) : Option (List Int × Int) := (chantryref07_may.f a0_0 a0_1 a0_2 a0_3 l0_4).bind fun t178 => (if t178 = true then ((chantryref01_Fix.f k a0_3 2).bind fun bt179 => ((chantryref01_Fix.f k a0_1 4).bind fun bt183 => ((chantryref01_Fix.f k a0_2 4).bind fun bt187 => ((some (([(a0_0) % 256, ((l0_4.length : Int)) % 256] : List Int) : List Int)).bind fun y191 => (if y191.length + bt179.1.length < 140737488355328 then ((some (y191 ++ bt179.1 : List Int)).bind fun y194 => (if y194.length + bt183.1.length < 140737488355328 then ((some (y194 ++ bt183.1 : List Int)).bind fun y197 => (if y197.length + bt187.1.length < 140737488355328 then ((some (y197 ++ bt187.1 : List Int)).bind fun y200 => (if y200.length + l0_4.length < 140737488355328 then (chantryref07_Put.l0 k (y200 ++ l0_4)) else (none))) else (none))) else (none))) else (none)))))) else (some (([] : List Int), 1)))
theorem chantryref07_Put.mono_l : ∀ k, (∀ y0, LeO (chantryref07_Put.l0 k y0) (chantryref07_Put.l0 (k + 1) y0))
  | 0 => fun _ r h => by simp [chantryref07_Put.l0] at h
  | k + 1 => by
    have ih0 := chantryref07_Put.mono_l k
    · intro y0
      unfold chantryref07_Put.l0
      repeat' first
      | (with_reducible exact ih0 _)
      | (with_reducible exact chantryref01_Fix.mono _ _ _)
      | (with_reducible exact chantryref02_Seal.mono _ _)
      | (with_reducible exact LeO.refl _)
      | (with_reducible exact LeO.none _)
      | (with_reducible refine LeO.ite ?_ ?_)
      | (with_reducible refine LeO.bind ?_ (fun _ => ?_))
      | exact ih0 _
      | exact chantryref01_Fix.mono _ _ _
      | exact chantryref02_Seal.mono _ _
      | exact LeO.none _
      | refine LeO.ite ?_ ?_
      | refine LeO.bind ?_ (fun _ => ?_)
theorem chantryref07_Put.mono : ∀ a0 a1 a2 a3 a4 k, LeO (chantryref07_Put.f k a0 a1 a2 a3 a4) (chantryref07_Put.f (k + 1) a0 a1 a2 a3 a4) := by
  intro a0 a1 a2 a3 a4 k
  have ih0 := chantryref07_Put.mono_l k
  unfold chantryref07_Put.f
  repeat' first
      | (with_reducible exact ih0 _)
      | (with_reducible exact chantryref01_Fix.mono _ _ _)
      | (with_reducible exact chantryref02_Seal.mono _ _)
      | (with_reducible exact LeO.refl _)
      | (with_reducible exact LeO.none _)
      | (with_reducible refine LeO.ite ?_ ?_)
      | (with_reducible refine LeO.bind ?_ (fun _ => ?_))
      | exact ih0 _
      | exact chantryref01_Fix.mono _ _ _
      | exact chantryref02_Seal.mono _ _
      | exact LeO.none _
      | refine LeO.ite ?_ ?_
      | refine LeO.bind ?_ (fun _ => ?_)
def chantryref07_Put.T7 : Bool × List (List Nat × List Nat) := (true, [([], []), ([], []), ([0, 1], [0, 1]), ([], []), ([2, 3, 2], [2, 3]), ([], []), ([4, 5, 4], [4, 5]), ([], []), ([7], [7]), ([6, 8, 6], [6, 8]), ([9, 9, 0, 1, 2, 3, 4, 5, 6, 7, 8, 9], [0, 9])])
def chantryref07_Put.B7 : List Nat := [0, 0, 3, 0, 15, 0, 63, 0, 128, 511, 1023]
theorem chantryref07_Put.tab7 : rtab .any (opsOf Try.f30 7) = chantryref07_Put.T7 := by kernel_rfl
theorem chantryref07_Put.bits7 : waitsOk chantryref07_Put.T7.2 chantryref07_Put.B7 = true := by kernel_rfl
set_option maxHeartbeats 8000000 in
set_option maxRecDepth 100000 in
theorem chantryref07_Put.calls (k : Nat) (a0_0 : Int) (a0_1 : Int) (a0_2 : Int) (a0_3 : Int) (A0_4 : Option Addr) (c0_4 : Nat) (l0_4 : List Int) (r1 : List Int) (r2 : Int) (w : World) (hr0_4 : Kd.C (Kd.int .u8) w A0_4 l0_4.length l0_4) (hc0_4 : l0_4.length ≤ c0_4) (h : chantryref07_Put.f k a0_0 a0_1 a0_2 a0_3 l0_4 = some (r1, r2)) :
    Calls Try.prog 30 #[.agg #[.int .i64 a0_0, .int .i64 a0_1, .int .i64 a0_2, .int .i64 a0_3, .slice A0_4 l0_4.length c0_4]] w fun e w' => ∃ v0_ : Value, e = .returned (.tuple #[v0_, .int .i64 r2]) ∧ Kd.R (Kd.int .u8) 5 w' w.heap.size (fun _ => True) v0_ r1 ∧ Below w.heap.size w w' := by
  have hu69 := Try.underlying69
  have HR0_4 := Aside0.mk hr0_4
  have HC0_4 := Aside0.mk hc0_4
  clear hr0_4 hc0_4
  have HB := Aside0.mk (Below.refl w.heap.size w)
  have H : ((chantryref07_may.f a0_0 a0_1 a0_2 a0_3 l0_4).bind fun t178 => (if t178 = true then ((chantryref01_Fix.f k a0_3 2).bind fun bt179 => ((chantryref01_Fix.f k a0_1 4).bind fun bt183 => ((chantryref01_Fix.f k a0_2 4).bind fun bt187 => ((some (([(a0_0) % 256, ((l0_4.length : Int)) % 256] : List Int) : List Int)).bind fun y191 => (if y191.length + bt179.1.length < 140737488355328 then ((some (y191 ++ bt179.1 : List Int)).bind fun y194 => (if y194.length + bt183.1.length < 140737488355328 then ((some (y194 ++ bt183.1 : List Int)).bind fun y197 => (if y197.length + bt187.1.length < 140737488355328 then ((some (y197 ++ bt187.1 : List Int)).bind fun y200 => (if y200.length + l0_4.length < 140737488355328 then (chantryref07_Put.l0 k (y200 ++ l0_4)) else (none))) else (none))) else (none))) else (none)))))) else (some (([] : List Int), 1)))) = some (r1, r2) := h
  clear h
  replace H := Option.bind_eq_some_iff.mp H
  obtain ⟨t178, A20, H⟩ := H
  replace H : (if t178 = true then ((chantryref01_Fix.f k a0_3 2).bind fun bt179 => ((chantryref01_Fix.f k a0_1 4).bind fun bt183 => ((chantryref01_Fix.f k a0_2 4).bind fun bt187 => ((some (([(a0_0) % 256, ((l0_4.length : Int)) % 256] : List Int) : List Int)).bind fun y191 => (if y191.length + bt179.1.length < 140737488355328 then ((some (y191 ++ bt179.1 : List Int)).bind fun y194 => (if y194.length + bt183.1.length < 140737488355328 then ((some (y194 ++ bt183.1 : List Int)).bind fun y197 => (if y197.length + bt187.1.length < 140737488355328 then ((some (y197 ++ bt187.1 : List Int)).bind fun y200 => (if y200.length + l0_4.length < 140737488355328 then (chantryref07_Put.l0 k (y200 ++ l0_4)) else (none))) else (none))) else (none))) else (none)))))) else (some (([] : List Int), 1))) = some (r1, r2) := H
  have A2 := Aside0.mk A20
  clear A20
  by_cases c3 : t178 = true
  · subst c3
    have H1 : ((chantryref01_Fix.f k a0_3 2).bind fun bt179 => ((chantryref01_Fix.f k a0_1 4).bind fun bt183 => ((chantryref01_Fix.f k a0_2 4).bind fun bt187 => ((some (([(a0_0) % 256, ((l0_4.length : Int)) % 256] : List Int) : List Int)).bind fun y191 => (if y191.length + bt179.1.length < 140737488355328 then ((some (y191 ++ bt179.1 : List Int)).bind fun y194 => (if y194.length + bt183.1.length < 140737488355328 then ((some (y194 ++ bt183.1 : List Int)).bind fun y197 => (if y197.length + bt187.1.length < 140737488355328 then ((some (y197 ++ bt187.1 : List Int)).bind fun y200 => (if y200.length + l0_4.length < 140737488355328 then (chantryref07_Put.l0 k (y200 ++ l0_4)) else (none))) else (none))) else (none))) else (none)))))) = some (r1, r2) := by rw [if_pos rfl] at H; exact H
    clear H
    have H := H1
    clear H1
    replace H := Option.bind_eq_some_iff.mp H
    obtain ⟨⟨t179, t180⟩, A40, H⟩ := H
    replace H : ((chantryref01_Fix.f k a0_1 4).bind fun bt183 => ((chantryref01_Fix.f k a0_2 4).bind fun bt187 => ((some (([(a0_0) % 256, ((l0_4.length : Int)) % 256] : List Int) : List Int)).bind fun y191 => (if y191.length + t179.length < 140737488355328 then ((some (y191 ++ t179 : List Int)).bind fun y194 => (if y194.length + bt183.1.length < 140737488355328 then ((some (y194 ++ bt183.1 : List Int)).bind fun y197 => (if y197.length + bt187.1.length < 140737488355328 then ((some (y197 ++ bt187.1 : List Int)).bind fun y200 => (if y200.length + l0_4.length < 140737488355328 then (chantryref07_Put.l0 k (y200 ++ l0_4)) else (none))) else (none))) else (none))) else (none))))) = some (r1, r2) := H
    have A4 := Aside0.mk A40
    clear A40
    replace H := Option.bind_eq_some_iff.mp H
    obtain ⟨⟨t183, t184⟩, A50, H⟩ := H
    replace H : ((chantryref01_Fix.f k a0_2 4).bind fun bt187 => ((some (([(a0_0) % 256, ((l0_4.length : Int)) % 256] : List Int) : List Int)).bind fun y191 => (if y191.length + t179.length < 140737488355328 then ((some (y191 ++ t179 : List Int)).bind fun y194 => (if y194.length + t183.length < 140737488355328 then ((some (y194 ++ t183 : List Int)).bind fun y197 => (if y197.length + bt187.1.length < 140737488355328 then ((some (y197 ++ bt187.1 : List Int)).bind fun y200 => (if y200.length + l0_4.length < 140737488355328 then (chantryref07_Put.l0 k (y200 ++ l0_4)) else (none))) else (none))) else (none))) else (none)))) = some (r1, r2) := H
    have A5 := Aside0.mk A50
    clear A50
    replace H := Option.bind_eq_some_iff.mp H
    obtain ⟨⟨t187, t188⟩, A60, H⟩ := H
    replace H : ((some (([(a0_0) % 256, ((l0_4.length : Int)) % 256] : List Int) : List Int)).bind fun y191 => (if y191.length + t179.length < 140737488355328 then ((some (y191 ++ t179 : List Int)).bind fun y194 => (if y194.length + t183.length < 140737488355328 then ((some (y194 ++ t183 : List Int)).bind fun y197 => (if y197.length + t187.length < 140737488355328 then ((some (y197 ++ t187 : List Int)).bind fun y200 => (if y200.length + l0_4.length < 140737488355328 then (chantryref07_Put.l0 k (y200 ++ l0_4)) else (none))) else (none))) else (none))) else (none))) = some (r1, r2) := H
    have A6 := Aside0.mk A60
    clear A60
    obtain ⟨y191, hy191⟩ : ∃ y_ : List Int, y_ = (([(a0_0) % 256, ((l0_4.length : Int)) % 256] : List Int)) := ⟨_, rfl⟩
    replace H : (if y191.length + t179.length < 140737488355328 then ((some (y191 ++ t179 : List Int)).bind fun y194 => (if y194.length + t183.length < 140737488355328 then ((some (y194 ++ t183 : List Int)).bind fun y197 => (if y197.length + t187.length < 140737488355328 then ((some (y197 ++ t187 : List Int)).bind fun y200 => (if y200.length + l0_4.length < 140737488355328 then (chantryref07_Put.l0 k (y200 ++ l0_4)) else (none))) else (none))) else (none))) else (none)) = some (r1, r2) := by first | (rw [hy191]; with_reducible exact H) | (have H2_ := (Option.bind_some _ _).symm.trans H; rw [hy191]; with_reducible exact H2_) | (have H2_ := (Option.bind_some _ _).symm.trans H; with_reducible exact H2_) | with_reducible exact H | (rw [hy191]; exact H) | exact H
    have Ny191 := Aside0.mk hy191
    clear hy191
    by_cases c7 : y191.length + t179.length < 140737488355328
    · rw [if_pos c7] at H
      have LMc7 := Aside0.mk c7
      clear c7
      obtain ⟨y194, hy194⟩ : ∃ y_ : List Int, y_ = (y191 ++ t179) := ⟨_, rfl⟩
      replace H : (if y194.length + t183.length < 140737488355328 then ((some (y194 ++ t183 : List Int)).bind fun y197 => (if y197.length + t187.length < 140737488355328 then ((some (y197 ++ t187 : List Int)).bind fun y200 => (if y200.length + l0_4.length < 140737488355328 then (chantryref07_Put.l0 k (y200 ++ l0_4)) else (none))) else (none))) else (none)) = some (r1, r2) := by first | (rw [hy194]; with_reducible exact H) | (have H2_ := (Option.bind_some _ _).symm.trans H; rw [hy194]; with_reducible exact H2_) | (have H2_ := (Option.bind_some _ _).symm.trans H; with_reducible exact H2_) | with_reducible exact H | (rw [hy194]; exact H) | exact H
      have Ny194 := Aside0.mk hy194
      clear hy194
      by_cases c8 : y194.length + t183.length < 140737488355328
      · rw [if_pos c8] at H
        have LMc8 := Aside0.mk c8
        clear c8
        obtain ⟨y197, hy197⟩ : ∃ y_ : List Int, y_ = (y194 ++ t183) := ⟨_, rfl⟩
        replace H : (if y197.length + t187.length < 140737488355328 then ((some (y197 ++ t187 : List Int)).bind fun y200 => (if y200.length + l0_4.length < 140737488355328 then (chantryref07_Put.l0 k (y200 ++ l0_4)) else (none))) else (none)) = some (r1, r2) := by first | (rw [hy197]; with_reducible exact H) | (have H2_ := (Option.bind_some _ _).symm.trans H; rw [hy197]; with_reducible exact H2_) | (have H2_ := (Option.bind_some _ _).symm.trans H; with_reducible exact H2_) | with_reducible exact H | (rw [hy197]; exact H) | exact H
        have Ny197 := Aside0.mk hy197
        clear hy197
        by_cases c9 : y197.length + t187.length < 140737488355328
        · rw [if_pos c9] at H
          have LMc9 := Aside0.mk c9
          clear c9
          obtain ⟨y200, hy200⟩ : ∃ y_ : List Int, y_ = (y197 ++ t187) := ⟨_, rfl⟩
          replace H : (if y200.length + l0_4.length < 140737488355328 then (chantryref07_Put.l0 k (y200 ++ l0_4)) else (none)) = some (r1, r2) := by first | (rw [hy200]; with_reducible exact H) | (have H2_ := (Option.bind_some _ _).symm.trans H; rw [hy200]; with_reducible exact H2_) | (have H2_ := (Option.bind_some _ _).symm.trans H; with_reducible exact H2_) | with_reducible exact H | (rw [hy200]; exact H) | exact H
          have Ny200 := Aside0.mk hy200
          clear hy200
          by_cases c10 : y200.length + l0_4.length < 140737488355328
          · rw [if_pos c10] at H
            have LMc10 := Aside0.mk c10
            clear c10
            obtain ⟨y203, hy203⟩ : ∃ y_ : List Int, y_ = (y200 ++ l0_4) := ⟨_, rfl⟩
            replace H : (chantryref07_Put.l0 k y203) = some (r1, r2) := by first | (rw [hy203]; with_reducible exact H) | (have H2_ := (Option.bind_some _ _).symm.trans H; rw [hy203]; with_reducible exact H2_) | (have H2_ := (Option.bind_some _ _).symm.trans H; with_reducible exact H2_) | with_reducible exact H | (rw [hy203]; exact H) | exact H
            have Ny203 := Aside0.mk hy203
            clear hy203
            have H' := Aside0.mk H
            clear H
            go_enter Try.func30, Try.ntmps30
            try go_wp2_with (first | ((with_reducible refine gate_dst (N := 1) rfl ?_); refine box_event ?hg (N := 1) ?hd (cs := #[.int .i64 a0_0, .int .i64 a0_1, .int .i64 a0_2, .int .i64 a0_3, .slice A0_4 l0_4.length c0_4]) (t := 69) ?hr ?_; (case hd => rfl); (case hg => rfl); (case hr => first | (go_simp; done) | (go_simp; rfl)); intro gb177 hg w11 hbox hb; have n0_ := Aside0.mk (below_step (by repeat (first | (with_reducible first | exact HB.out | apply below_alloc | apply pw_below_drewN | apply below_drew1) | exact HB.out)) hb); have n1_ := Aside0.mk (hbox); have n2_ := Aside0.mk ((by rw [hg]; exact (below_size (by repeat (first | (with_reducible first | exact HB.out | apply below_alloc | apply pw_below_drewN | apply below_drew1) | exact HB.out))) : w.heap.size ≤ gb177)); have n3_ := Aside0.mk ((by rw [hg]; exact (below_size (by repeat (first | (with_reducible first | exact HB.out | apply below_alloc | apply pw_below_drewN | apply below_drew1) | exact HB.out))) : w.heap.size ≤ gb177)); clear HB; have HB := n0_; have BK177 := n1_; have GW177 := n2_; have GE177 := n3_; clear n0_ n1_ n2_ n3_; clear hb hbox hg; have hcz12_0 : w11.cell? ⟨gb177, 0, none⟩ = some (.int .i64 a0_0) := (blk_cell BK177.out 0).trans rfl; have hcz12_1 : w11.cell? ⟨gb177, 1, none⟩ = some (.int .i64 a0_1) := (blk_cell BK177.out 1).trans rfl; have hcz12_2 : w11.cell? ⟨gb177, 2, none⟩ = some (.int .i64 a0_2) := (blk_cell BK177.out 2).trans rfl; have hcz12_3 : w11.cell? ⟨gb177, 3, none⟩ = some (.int .i64 a0_3) := (blk_cell BK177.out 3).trans rfl; have hcz12_4 : w11.cell? ⟨gb177, 4, none⟩ = some (.slice A0_4 l0_4.length c0_4) := (blk_cell BK177.out 4).trans rfl; have hfz12_0 := blk_frozen BK177.out 0; have hfz12_1 := blk_frozen BK177.out 1; have hfz12_2 := blk_frozen BK177.out 2; have hfz12_3 := blk_frozen BK177.out 3; have hfz12_4 := blk_frozen BK177.out 4) | ((with_reducible refine gate_callee (f := 70) rfl ?_); refine goesL_ (some 12) rfl rfl Try.func70 (by kernel_rfl) rfl #[.agg #[.int .i64 a0_0, .int .i64 a0_1, .int .i64 a0_2, .int .i64 a0_3, .slice A0_4 l0_4.length c0_4]] rfl (by (try simp only [List.map_toArray, List.map_cons, List.map_nil]); first | done | rfl | (simp only [List.length_drop, List.length_take]; rfl)) ?_; (with_reducible refine (chantryref07_may.calls a0_0 a0_1 a0_2 a0_3 _ _ l0_4 true _ ?side1 ?side2 A2.out).mono ?_); (case side1 => repeat (first | exact (Kd.C_below HR0_4.out HB.out) | (with_reducible refine Kd.C_alloc ?_ _) | (with_reducible refine Kd.C_drewN ?_ _) | (with_reducible refine Kd.C_drew ?_))); (case side2 => exact HC0_4.out); rintro e w13 ⟨rfl, hb⟩; refine ⟨_, rfl, ?_⟩; have n0_ := Aside0.mk (blk_below (g := gb177) (o := .cells #[.int .i64 a0_0, .int .i64 a0_1, .int .i64 a0_2, .int .i64 a0_3, .slice A0_4 l0_4.length c0_4] 69 (0, 0)) (by (with_reducible repeat (first | refine blk_drewN ?_ _ | refine blk_drew ?_ | refine blk_alloc ?_ _)); exact BK177.out) hb); have n1_ := Aside0.mk (below_step (by repeat (first | (with_reducible first | exact HB.out | apply below_alloc | apply pw_below_drewN | apply below_drew1 | refine below_set ?_ GE177.out) | exact HB.out)) hb); clear BK177; clear HB; have BK177 := n0_; have HB := n1_; clear n0_ n1_; (try clear hb); (try clear hb2); (try clear hk); (try clear hi); have hcz14_0 : w13.cell? ⟨gb177, 0, none⟩ = some (.int .i64 a0_0) := (blk_cell BK177.out 0).trans rfl; have hcz14_1 : w13.cell? ⟨gb177, 1, none⟩ = some (.int .i64 a0_1) := (blk_cell BK177.out 1).trans rfl; have hcz14_2 : w13.cell? ⟨gb177, 2, none⟩ = some (.int .i64 a0_2) := (blk_cell BK177.out 2).trans rfl; have hcz14_3 : w13.cell? ⟨gb177, 3, none⟩ = some (.int .i64 a0_3) := (blk_cell BK177.out 3).trans rfl; have hcz14_4 : w13.cell? ⟨gb177, 4, none⟩ = some (.slice A0_4 l0_4.length c0_4) := (blk_cell BK177.out 4).trans rfl; have hfz14_0 := blk_frozen BK177.out 0; have hfz14_1 := blk_frozen BK177.out 1; have hfz14_2 := blk_frozen BK177.out 2; have hfz14_3 := blk_frozen BK177.out 3; have hfz14_4 := blk_frozen BK177.out 4) | ((with_reducible refine gate_callee (f := 29) rfl ?_); refine goesL_ (some 17) rfl rfl Try.func29 (by kernel_rfl) rfl #[.int .i64 a0_3, .int .i64 2] rfl (by (try simp only [List.map_toArray, List.map_cons, List.map_nil]); first | done | rfl | (simp only [List.length_drop, List.length_take]; rfl)) ?_; (with_reducible refine (chantryref01_Fix.calls k a0_3 2 t179 t180 _ A4.out).mono ?_); rintro e w15 ⟨v181, rfl, ho0, hb⟩; refine ⟨_, rfl, ?_⟩; have n0_ := Aside0.mk (Kd.R_lower ho0 (below_size (by repeat (first | (with_reducible first | exact HB.out | apply below_alloc | apply pw_below_drewN | apply below_drew1 | refine below_set ?_ GE177.out) | exact HB.out)))); have n1_ := Aside0.mk (blk_below (g := gb177) (o := .cells #[.int .i64 a0_0, .int .i64 a0_1, .int .i64 a0_2, .int .i64 a0_3, .slice A0_4 l0_4.length c0_4] 69 (0, 0)) (by (with_reducible repeat (first | refine blk_drewN ?_ _ | refine blk_drew ?_ | refine blk_alloc ?_ _)); exact BK177.out) hb); have n2_ := Aside0.mk (below_step (by repeat (first | (with_reducible first | exact HB.out | apply below_alloc | apply pw_below_drewN | apply below_drew1 | refine below_set ?_ GE177.out) | exact HB.out)) hb); clear BK177; clear HB; have HO182 := n0_; have BK177 := n1_; have HB := n2_; clear n0_ n1_ n2_; (try clear hb); (try clear hb2); (try clear hk); (try clear hi); (try clear ho0); have hcz16_0 : w15.cell? ⟨gb177, 0, none⟩ = some (.int .i64 a0_0) := (blk_cell BK177.out 0).trans rfl; have hcz16_1 : w15.cell? ⟨gb177, 1, none⟩ = some (.int .i64 a0_1) := (blk_cell BK177.out 1).trans rfl; have hcz16_2 : w15.cell? ⟨gb177, 2, none⟩ = some (.int .i64 a0_2) := (blk_cell BK177.out 2).trans rfl; have hcz16_3 : w15.cell? ⟨gb177, 3, none⟩ = some (.int .i64 a0_3) := (blk_cell BK177.out 3).trans rfl; have hcz16_4 : w15.cell? ⟨gb177, 4, none⟩ = some (.slice A0_4 l0_4.length c0_4) := (blk_cell BK177.out 4).trans rfl; have hfz16_0 := blk_frozen BK177.out 0; have hfz16_1 := blk_frozen BK177.out 1; have hfz16_2 := blk_frozen BK177.out 2; have hfz16_3 := blk_frozen BK177.out 3; have hfz16_4 := blk_frozen BK177.out 4) | ((with_reducible refine gate_callee (f := 29) rfl ?_); refine goesL_ (some 23) rfl rfl Try.func29 (by kernel_rfl) rfl #[.int .i64 a0_1, .int .i64 4] rfl (by (try simp only [List.map_toArray, List.map_cons, List.map_nil]); first | done | rfl | (simp only [List.length_drop, List.length_take]; rfl)) ?_; (with_reducible refine (chantryref01_Fix.calls k a0_1 4 t183 t184 _ A5.out).mono ?_); rintro e w17 ⟨v185, rfl, ho0, hb⟩; refine ⟨_, rfl, ?_⟩; have n0_ := Aside0.mk (Kd.R_elder' (by (with_reducible repeat (first | apply Kd.R_alloc | apply Kd.R_drewN | apply Kd.R_drew)); exact HO182.out) (Kd.R_base ho0) hb); have n1_ := Aside0.mk (Kd.R_lower (Kd.R_new' ho0 (Kd.R_lt (by (with_reducible repeat (first | apply Kd.R_alloc | apply Kd.R_drewN | apply Kd.R_drew)); exact HO182.out))) (below_size (by repeat (first | (with_reducible first | exact HB.out | apply below_alloc | apply pw_below_drewN | apply below_drew1 | refine below_set ?_ GE177.out) | exact HB.out)))); have n2_ := Aside0.mk (blk_below (g := gb177) (o := .cells #[.int .i64 a0_0, .int .i64 a0_1, .int .i64 a0_2, .int .i64 a0_3, .slice A0_4 l0_4.length c0_4] 69 (0, 0)) (by (with_reducible repeat (first | refine blk_drewN ?_ _ | refine blk_drew ?_ | refine blk_alloc ?_ _)); exact BK177.out) hb); have n3_ := Aside0.mk (below_step (by repeat (first | (with_reducible first | exact HB.out | apply below_alloc | apply pw_below_drewN | apply below_drew1 | refine below_set ?_ GE177.out) | exact HB.out)) hb); clear HO182; clear BK177; clear HB; have HO182 := n0_; have HO186 := n1_; have BK177 := n2_; have HB := n3_; clear n0_ n1_ n2_ n3_; (try clear hb); (try clear hb2); (try clear hk); (try clear hi); (try clear ho0); have hcz18_0 : w17.cell? ⟨gb177, 0, none⟩ = some (.int .i64 a0_0) := (blk_cell BK177.out 0).trans rfl; have hcz18_1 : w17.cell? ⟨gb177, 1, none⟩ = some (.int .i64 a0_1) := (blk_cell BK177.out 1).trans rfl; have hcz18_2 : w17.cell? ⟨gb177, 2, none⟩ = some (.int .i64 a0_2) := (blk_cell BK177.out 2).trans rfl; have hcz18_3 : w17.cell? ⟨gb177, 3, none⟩ = some (.int .i64 a0_3) := (blk_cell BK177.out 3).trans rfl; have hcz18_4 : w17.cell? ⟨gb177, 4, none⟩ = some (.slice A0_4 l0_4.length c0_4) := (blk_cell BK177.out 4).trans rfl; have hfz18_0 := blk_frozen BK177.out 0; have hfz18_1 := blk_frozen BK177.out 1; have hfz18_2 := blk_frozen BK177.out 2; have hfz18_3 := blk_frozen BK177.out 3; have hfz18_4 := blk_frozen BK177.out 4) | ((with_reducible refine gate_callee (f := 29) rfl ?_); refine goesL_ (some 29) rfl rfl Try.func29 (by kernel_rfl) rfl #[.int .i64 a0_2, .int .i64 4] rfl (by (try simp only [List.map_toArray, List.map_cons, List.map_nil]); first | done | rfl | (simp only [List.length_drop, List.length_take]; rfl)) ?_; (with_reducible refine (chantryref01_Fix.calls k a0_2 4 t187 t188 _ A6.out).mono ?_); rintro e w19 ⟨v189, rfl, ho0, hb⟩; refine ⟨_, rfl, ?_⟩; have n0_ := Aside0.mk (Kd.R_elder' (by (with_reducible repeat (first | apply Kd.R_alloc | apply Kd.R_drewN | apply Kd.R_drew)); exact HO182.out) (Kd.R_base ho0) hb); have n1_ := Aside0.mk (Kd.R_elder' (by (with_reducible repeat (first | apply Kd.R_alloc | apply Kd.R_drewN | apply Kd.R_drew)); exact HO186.out) (Kd.R_base ho0) hb); have n2_ := Aside0.mk (Kd.R_lower (Kd.R_new' (Kd.R_new' ho0 (Kd.R_lt (by (with_reducible repeat (first | apply Kd.R_alloc | apply Kd.R_drewN | apply Kd.R_drew)); exact HO182.out))) (Kd.R_lt (by (with_reducible repeat (first | apply Kd.R_alloc | apply Kd.R_drewN | apply Kd.R_drew)); exact HO186.out))) (below_size (by repeat (first | (with_reducible first | exact HB.out | apply below_alloc | apply pw_below_drewN | apply below_drew1 | refine below_set ?_ GE177.out) | exact HB.out)))); have n3_ := Aside0.mk (blk_below (g := gb177) (o := .cells #[.int .i64 a0_0, .int .i64 a0_1, .int .i64 a0_2, .int .i64 a0_3, .slice A0_4 l0_4.length c0_4] 69 (0, 0)) (by (with_reducible repeat (first | refine blk_drewN ?_ _ | refine blk_drew ?_ | refine blk_alloc ?_ _)); exact BK177.out) hb); have n4_ := Aside0.mk (below_step (by repeat (first | (with_reducible first | exact HB.out | apply below_alloc | apply pw_below_drewN | apply below_drew1 | refine below_set ?_ GE177.out) | exact HB.out)) hb); clear HO182; clear HO186; clear BK177; clear HB; have HO182 := n0_; have HO186 := n1_; have HO190 := n2_; have BK177 := n3_; have HB := n4_; clear n0_ n1_ n2_ n3_ n4_; (try clear hb); (try clear hb2); (try clear hk); (try clear hi); (try clear ho0); have hcz20_0 : w19.cell? ⟨gb177, 0, none⟩ = some (.int .i64 a0_0) := (blk_cell BK177.out 0).trans rfl; have hcz20_1 : w19.cell? ⟨gb177, 1, none⟩ = some (.int .i64 a0_1) := (blk_cell BK177.out 1).trans rfl; have hcz20_2 : w19.cell? ⟨gb177, 2, none⟩ = some (.int .i64 a0_2) := (blk_cell BK177.out 2).trans rfl; have hcz20_3 : w19.cell? ⟨gb177, 3, none⟩ = some (.int .i64 a0_3) := (blk_cell BK177.out 3).trans rfl; have hcz20_4 : w19.cell? ⟨gb177, 4, none⟩ = some (.slice A0_4 l0_4.length c0_4) := (blk_cell BK177.out 4).trans rfl; have hfz20_0 := blk_frozen BK177.out 0; have hfz20_1 := blk_frozen BK177.out 1; have hfz20_2 := blk_frozen BK177.out 2; have hfz20_3 := blk_frozen BK177.out 3; have hfz20_4 := blk_frozen BK177.out 4) | ((with_reducible refine gate_dst (N := 39) rfl ?_); refine Kd.R_lit (Kd.int .u8) _ 5 ?hg (N := 39) ?hd (xs := ([(a0_0) % 256, ((l0_4.length : Int)) % 256] : List Int)) (inner := [.int .u8 ((a0_0) % 256), .int .u8 (((l0_4.length : Int)) % 256)]) (ok := fun _ => True) (okp := fun _ => True) ?hr ?hp (fun _ hk => hk) trivial (Below.refl _ _) (Nat.le_refl _) (by simp) ?_; (case hd => rfl); (case hg => rfl); (case hr => first | (go_simp; done) | (go_simp; rfl)); (case hp => exact (Reps.one (show Kd.M (Kd.int .u8) _ _ _ ((a0_0) % 256) [.int .u8 ((a0_0) % 256)] from rfl) (Reps.one (show Kd.M (Kd.int .u8) _ _ _ (((l0_4.length : Int)) % 256) [.int .u8 (((l0_4.length : Int)) % 256)] from rfl) (Reps.none _ _)))); intro v192 w21 ho22 hb hg_ hnew_; clear hg_ hnew_; (first | rw [← Ny191.out] at ho22 | (simp only [Int.reduceToNat] at ho22; rw [← Ny191.out] at ho22)); have n0_ := Aside0.mk (Kd.R_elder' (by (with_reducible repeat (first | apply Kd.R_alloc | apply Kd.R_drewN | apply Kd.R_drew)); exact HO182.out) (Kd.R_base ho22) hb); have n1_ := Aside0.mk (Kd.R_elder' (by (with_reducible repeat (first | apply Kd.R_alloc | apply Kd.R_drewN | apply Kd.R_drew)); exact HO186.out) (Kd.R_base ho22) hb); have n2_ := Aside0.mk (Kd.R_elder' (by (with_reducible repeat (first | apply Kd.R_alloc | apply Kd.R_drewN | apply Kd.R_drew)); exact HO190.out) (Kd.R_base ho22) hb); have n3_ := Aside0.mk (Kd.R_lower (Kd.R_new' (Kd.R_new' (Kd.R_new' ho22 (Kd.R_lt (by (with_reducible repeat (first | apply Kd.R_alloc | apply Kd.R_drewN | apply Kd.R_drew)); exact HO182.out))) (Kd.R_lt (by (with_reducible repeat (first | apply Kd.R_alloc | apply Kd.R_drewN | apply Kd.R_drew)); exact HO186.out))) (Kd.R_lt (by (with_reducible repeat (first | apply Kd.R_alloc | apply Kd.R_drewN | apply Kd.R_drew)); exact HO190.out))) (below_size (by repeat (first | (with_reducible first | exact HB.out | apply below_alloc | apply pw_below_drewN | apply below_drew1 | refine below_set ?_ GE177.out) | exact HB.out)))); have n4_ := Aside0.mk (blk_below (g := gb177) (o := .cells #[.int .i64 a0_0, .int .i64 a0_1, .int .i64 a0_2, .int .i64 a0_3, .slice A0_4 l0_4.length c0_4] 69 (0, 0)) (by (with_reducible repeat (first | refine blk_drewN ?_ _ | refine blk_drew ?_ | refine blk_alloc ?_ _)); exact BK177.out) hb); have n5_ := Aside0.mk (below_step (by repeat (first | (with_reducible first | exact HB.out | apply below_alloc | apply pw_below_drewN | apply below_drew1 | refine below_set ?_ GE177.out) | exact HB.out)) hb); clear HO182; clear HO186; clear HO190; clear BK177; clear HB; have HO182 := n0_; have HO186 := n1_; have HO190 := n2_; have HO193 := n3_; have BK177 := n4_; have HB := n5_; clear n0_ n1_ n2_ n3_ n4_ n5_; clear hb ho22))
            have n0_ := Aside0.mk (Kd.R_drew HO182.out)
            have n1_ := Aside0.mk (Kd.R_drew HO186.out)
            have n2_ := Aside0.mk (Kd.R_drew HO190.out)
            have n3_ := Aside0.mk (Kd.R_drew HO193.out)
            have n4_ := Aside0.mk (blk_drew BK177.out)
            have n5_ := Aside0.mk (below_drew1 HB.out)
            clear HO182
            clear HO186
            clear HO190
            clear HO193
            clear BK177
            clear HB
            have HO182 := n0_
            have HO186 := n1_
            have HO190 := n2_
            have HO193 := n3_
            have BK177 := n4_
            have HB := n5_
            clear n0_ n1_ n2_ n3_ n4_ n5_
            obtain ⟨Ao25, co25, eo25⟩ := Kd.R_slice HO182.out
            (first | subst eo25 | (injection eo25 with f1_ f2_ f3_; have f4_ := f1_.symm; have f5_ := f3_.symm; clear f1_ f2_ f3_; subst f4_; subst f5_))
            refine start_ (n := 11) (S := fun w' => w'.cell? ⟨gb177, 0, none⟩ = some (.int .i64 a0_0) ∧ w'.cell? ⟨gb177, 1, none⟩ = some (.int .i64 a0_1) ∧ w'.cell? ⟨gb177, 2, none⟩ = some (.int .i64 a0_2) ∧ w'.cell? ⟨gb177, 3, none⟩ = some (.int .i64 a0_3) ∧ w'.cell? ⟨gb177, 4, none⟩ = some (.slice A0_4 l0_4.length c0_4)) (ds := []) #[false, false, false, false, false, false, false, false, false, false, false] (by kernel_rfl) rfl rfl ⟨(blk_cell BK177.out 0).trans rfl, (blk_cell BK177.out 1).trans rfl, (blk_cell BK177.out 2).trans rfl, (blk_cell BK177.out 3).trans rfl, (blk_cell BK177.out 4).trans rfl⟩ (fun hHeld => ?_); refine with_tabW chantryref07_Put.tab7 chantryref07_Put.bits7 (fun HT_ HW_ => ?_)
            generalize w21.drew = w23 at HO182 HO186 HO190 HO193 BK177 HB hHeld ⊢
            refine pure_ (i := 0) (N := some 40) (v := ?_) (a' := ?_) #[true, false, false, false, false, false, false, false, false, false, false] rfl rfl (any_of HT_.out (by kernel_rfl)) (fun _ _ _ h => h) (Or.inl ⟨by rfl, ?_⟩) ?_ ?_
            rotate_left
            · intro w'
              go_simp
              with_reducible rfl
            rotate_left
            · simp only [Act.put, List.setIfInBounds_toArray, List.set_cons_zero, List.set_cons_succ, i64_w, i32_w]
              rfl
            refine pure_ (i := 1) (N := some 41) (v := ?_) (a' := ?_) #[true, true, false, false, false, false, false, false, false, false, false] rfl rfl (any_of HT_.out (by kernel_rfl)) (fun _ _ _ h => h) (Or.inl ⟨by rfl, ?_⟩) ?_ ?_
            rotate_left
            · intro w'
              go_simp
              with_reducible rfl
            rotate_left
            · simp only [Act.put, List.setIfInBounds_toArray, List.set_cons_zero, List.set_cons_succ, i64_w, i32_w]
              rfl
            refine pure_ (i := 3) (N := some 43) (v := ?_) (a' := ?_) #[true, true, false, true, false, false, false, false, false, false, false] rfl rfl (any_of HT_.out (by kernel_rfl)) (fun _ _ _ h => h) (Or.inl ⟨by rfl, ?_⟩) ?_ ?_
            rotate_left
            · intro w'
              go_simp
              with_reducible rfl
            rotate_left
            · simp only [Act.put, List.setIfInBounds_toArray, List.set_cons_zero, List.set_cons_succ, i64_w, i32_w]
              rfl
            refine pure_ (i := 5) (N := some 45) (v := ?_) (a' := ?_) #[true, true, false, true, false, true, false, false, false, false, false] rfl rfl (any_of HT_.out (by kernel_rfl)) (fun _ _ _ h => h) (Or.inl ⟨by rfl, ?_⟩) ?_ ?_
            rotate_left
            · intro w'
              go_simp
              with_reducible rfl
            rotate_left
            · simp only [Act.put, List.setIfInBounds_toArray, List.set_cons_zero, List.set_cons_succ, i64_w, i32_w]
              rfl
            refine pure_ (i := 7) (N := some 47) (v := ?_) (a' := ?_) #[true, true, false, true, false, true, false, true, false, false, false] rfl rfl (any_of HT_.out (by kernel_rfl)) (fun _ _ _ h => h) (Or.inl ⟨by rfl, ?_⟩) ?_ ?_
            rotate_left
            · intro w'
              go_simp
              with_reducible rfl
            rotate_left
            · simp only [Act.put, List.setIfInBounds_toArray, List.set_cons_zero, List.set_cons_succ, i64_w, i32_w]
              rfl
            refine take_ (i := 8) (N := some 48) (v := ?_) (a' := ?_) #[true, true, false, true, false, true, false, true, true, false, false] rfl rfl (take_ofW HT_.out HW_.out (by kernel_rfl)) (fun _ _ _ h => h) (Or.inl ⟨by rfl, ?_⟩) hHeld ?_ ?_
            rotate_left
            · rintro w' ⟨s0, s1, s2, s3, s4⟩
              go_simp
              with_reducible rfl
            rotate_left
            · simp only [Act.put, List.setIfInBounds_toArray, List.set_cons_zero, List.set_cons_succ, i64_w, i32_w]
              rfl
            refine one_ (i := 2) (N := some 42) #[true, true, true, true, false, true, false, true, true, false, false] rfl rfl (one_of HT_.out (by kernel_rfl)) (by decide) (fun K hK => ?_)
            refine Kd.R_append_rows_step (Kd.int .u8) (w0 := w) w.heap.size (by rfl) (.tmp 40) (.tmp 41) 26 5 (.int .u8 0) 1 rfl Try.underlying26 info5 rfl (by decide) (by omega) v192 y191 t179 _ _ _ (fun k_ => some k_ ≠ (.slice Ao25 t179.length co25 : Value).ownBlock ∧ some k_ ≠ (v185 : Value).ownBlock ∧ some k_ ≠ (v189 : Value).ownBlock) (fun _ => False) rfl rfl ?aO ?aR (fun _ _ h => h) (fun _ h => h.elim) ?aF ?aB ?aS ?aL ?_
            (case aR => repeat (first | exact (Kd.R_reads' HO182.out).2.2 | (with_reducible refine Kd.C_alloc ?_ _) | (with_reducible refine Kd.C_drewN ?_ _) | (with_reducible refine Kd.C_drew ?_)))
            (case aB => exact (by repeat (first | (with_reducible first | exact HB.out | apply below_alloc | apply pw_below_drewN | apply below_drew1 | refine below_set ?_ GE177.out) | exact HB.out)))
            (case aF => exact (fun k_ hk => ⟨Kd.fresh' (Kd.R_lt (by (with_reducible repeat (first | apply Kd.R_alloc | apply Kd.R_drewN | apply Kd.R_drew)); exact HO182.out)) k_ hk, Kd.fresh' (Kd.R_lt (by (with_reducible repeat (first | apply Kd.R_alloc | apply Kd.R_drewN | apply Kd.R_drew)); exact HO186.out)) k_ hk, Kd.fresh' (Kd.R_lt (by (with_reducible repeat (first | apply Kd.R_alloc | apply Kd.R_drewN | apply Kd.R_drew)); exact HO190.out)) k_ hk⟩))
            (case aO => exact (by (with_reducible repeat (first | apply Kd.R_alloc | apply Kd.R_drewN | apply Kd.R_drew)); exact Kd.R_mono HO193.out (fun _ hk => ⟨hk.1.1.2, ⟨hk.1.2, hk.2⟩⟩)))
            (case aS => exact (below_size (by repeat (first | (with_reducible first | exact HB.out | apply below_alloc | apply pw_below_drewN | apply below_drew1 | refine below_set ?_ GE177.out) | exact HB.out))))
            (case aL => have := LMc7.out; omega)
            intro v195 w24 ho hb hg hat
            rw [← Ny194.out] at ho
            have n0_ := Aside0.mk (blk_grown (g := gb177) (o := .cells #[.int .i64 a0_0, .int .i64 a0_1, .int .i64 a0_2, .int .i64 a0_3, .slice A0_4 l0_4.length c0_4] 69 (0, 0)) (by (with_reducible repeat (first | refine blk_drewN ?_ _ | refine blk_drew ?_ | refine blk_alloc ?_ _)); exact BK177.out) hg (Kd.R_ne HO193.out BK177.out (by decide)))
            have n1_ := Aside0.mk (Kd.R_after (ok := (fun k_ => some k_ ≠ (v185 : Value).ownBlock ∧ some k_ ≠ (v189 : Value).ownBlock)) (by (with_reducible repeat (first | apply Kd.R_alloc | apply Kd.R_drewN | apply Kd.R_drew)); exact Kd.R_mono HO182.out (fun _ hk => ⟨⟨hk.1.1.2, hk.1.2⟩, hk.2⟩)) hg hat)
            have n2_ := Aside0.mk (Kd.R_after (ok := (fun k_ => some k_ ≠ (.slice Ao25 t179.length co25 : Value).ownBlock ∧ some k_ ≠ (v189 : Value).ownBlock)) (by (with_reducible repeat (first | apply Kd.R_alloc | apply Kd.R_drewN | apply Kd.R_drew)); exact Kd.R_mono HO186.out (fun _ hk => ⟨⟨hk.1.1.2, hk.1.2⟩, hk.2⟩)) hg hat)
            have n3_ := Aside0.mk (Kd.R_after (ok := (fun k_ => some k_ ≠ (.slice Ao25 t179.length co25 : Value).ownBlock ∧ some k_ ≠ (v185 : Value).ownBlock)) (by (with_reducible repeat (first | apply Kd.R_alloc | apply Kd.R_drewN | apply Kd.R_drew)); exact Kd.R_mono HO190.out (fun _ hk => ⟨⟨hk.1.1.2, hk.1.2⟩, hk.2⟩)) hg hat)
            have n4_ := Aside0.mk (hb)
            have n5_ := Aside0.mk (ho)
            clear BK177
            clear HO182
            clear HO186
            clear HO190
            clear HB
            clear HO193
            have BK177 := n0_
            have HO182 := n1_
            have HO186 := n2_
            have HO190 := n3_
            have HB := n4_
            have HO196 := n5_
            clear n0_ n1_ n2_ n3_ n4_ n5_
            clear ho hb hg hat
            obtain ⟨Ao27, co27, eo27⟩ := Kd.R_slice HO186.out
            (first | subst eo27 | (injection eo27 with f1_ f2_ f3_; have f4_ := f1_.symm; have f5_ := f3_.symm; clear f1_ f2_ f3_; subst f4_; subst f5_))
            refine hK.out _ _ ⟨(blk_cell BK177.out 0).trans rfl, (blk_cell BK177.out 1).trans rfl, (blk_cell BK177.out 2).trans rfl, (blk_cell BK177.out 3).trans rfl, (blk_cell BK177.out 4).trans rfl⟩ (fun hHeld => ?_)
            clear hK K
            refine norm_ (a' := ?_) ?_ ?_
            rotate_left
            · show Act.put _ (some 42) _ = _
              simp only [Act.put, List.setIfInBounds_toArray, List.set_cons_zero, List.set_cons_succ, i64_w, i32_w]
              rfl
            refine one_ (i := 4) (N := some 44) #[true, true, true, true, true, true, false, true, true, false, false] rfl rfl (one_of HT_.out (by kernel_rfl)) (by decide) (fun K hK => ?_)
            refine Kd.R_append_rows_step (Kd.int .u8) (w0 := w) w.heap.size (by rfl) (.tmp 42) (.tmp 43) 26 5 (.int .u8 0) 1 rfl Try.underlying26 info5 rfl (by decide) (by omega) v195 y194 t183 _ _ _ (fun k_ => some k_ ≠ (.slice Ao25 t179.length co25 : Value).ownBlock ∧ some k_ ≠ (.slice Ao27 t183.length co27 : Value).ownBlock ∧ some k_ ≠ (v189 : Value).ownBlock) (fun _ => False) rfl rfl ?aO ?aR (fun _ _ h => h) (fun _ h => h.elim) ?aF ?aB ?aS ?aL ?_
            (case aR => repeat (first | exact (Kd.R_reads' HO186.out).2.2 | (with_reducible refine Kd.C_alloc ?_ _) | (with_reducible refine Kd.C_drewN ?_ _) | (with_reducible refine Kd.C_drew ?_)))
            (case aB => exact (by repeat (first | (with_reducible first | exact HB.out | apply below_alloc | apply pw_below_drewN | apply below_drew1 | refine below_set ?_ GE177.out) | exact HB.out)))
            (case aF => exact (fun k_ hk => ⟨Kd.fresh' (Kd.R_lt (by (with_reducible repeat (first | apply Kd.R_alloc | apply Kd.R_drewN | apply Kd.R_drew)); exact HO182.out)) k_ hk, Kd.fresh' (Kd.R_lt (by (with_reducible repeat (first | apply Kd.R_alloc | apply Kd.R_drewN | apply Kd.R_drew)); exact HO186.out)) k_ hk, Kd.fresh' (Kd.R_lt (by (with_reducible repeat (first | apply Kd.R_alloc | apply Kd.R_drewN | apply Kd.R_drew)); exact HO190.out)) k_ hk⟩))
            (case aO => exact (by (with_reducible repeat (first | apply Kd.R_alloc | apply Kd.R_drewN | apply Kd.R_drew)); exact HO196.out))
            (case aS => exact (below_size (by repeat (first | (with_reducible first | exact HB.out | apply below_alloc | apply pw_below_drewN | apply below_drew1 | refine below_set ?_ GE177.out) | exact HB.out))))
            (case aL => have := LMc8.out; omega)
            intro v198 w26 ho hb hg hat
            rw [← Ny197.out] at ho
            have n0_ := Aside0.mk (blk_grown (g := gb177) (o := .cells #[.int .i64 a0_0, .int .i64 a0_1, .int .i64 a0_2, .int .i64 a0_3, .slice A0_4 l0_4.length c0_4] 69 (0, 0)) (by (with_reducible repeat (first | refine blk_drewN ?_ _ | refine blk_drew ?_ | refine blk_alloc ?_ _)); exact BK177.out) hg (Kd.R_ne HO196.out BK177.out (by decide)))
            have n1_ := Aside0.mk (Kd.R_after (ok := (fun k_ => some k_ ≠ (.slice Ao27 t183.length co27 : Value).ownBlock ∧ some k_ ≠ (v189 : Value).ownBlock)) (by (with_reducible repeat (first | apply Kd.R_alloc | apply Kd.R_drewN | apply Kd.R_drew)); exact HO182.out) hg hat)
            have n2_ := Aside0.mk (Kd.R_after (ok := (fun k_ => some k_ ≠ (.slice Ao25 t179.length co25 : Value).ownBlock ∧ some k_ ≠ (v189 : Value).ownBlock)) (by (with_reducible repeat (first | apply Kd.R_alloc | apply Kd.R_drewN | apply Kd.R_drew)); exact HO186.out) hg hat)
            have n3_ := Aside0.mk (Kd.R_after (ok := (fun k_ => some k_ ≠ (.slice Ao25 t179.length co25 : Value).ownBlock ∧ some k_ ≠ (.slice Ao27 t183.length co27 : Value).ownBlock)) (by (with_reducible repeat (first | apply Kd.R_alloc | apply Kd.R_drewN | apply Kd.R_drew)); exact HO190.out) hg hat)
            have n4_ := Aside0.mk (hb)
            have n5_ := Aside0.mk (ho)
            clear BK177
            clear HO182
            clear HO186
            clear HO190
            clear HB
            clear HO196
            have BK177 := n0_
            have HO182 := n1_
            have HO186 := n2_
            have HO190 := n3_
            have HB := n4_
            have HO199 := n5_
            clear n0_ n1_ n2_ n3_ n4_ n5_
            clear ho hb hg hat
            obtain ⟨Ao29, co29, eo29⟩ := Kd.R_slice HO190.out
            (first | subst eo29 | (injection eo29 with f1_ f2_ f3_; have f4_ := f1_.symm; have f5_ := f3_.symm; clear f1_ f2_ f3_; subst f4_; subst f5_))
            refine hK.out _ _ ⟨(blk_cell BK177.out 0).trans rfl, (blk_cell BK177.out 1).trans rfl, (blk_cell BK177.out 2).trans rfl, (blk_cell BK177.out 3).trans rfl, (blk_cell BK177.out 4).trans rfl⟩ (fun hHeld => ?_)
            clear hK K
            refine norm_ (a' := ?_) ?_ ?_
            rotate_left
            · show Act.put _ (some 44) _ = _
              simp only [Act.put, List.setIfInBounds_toArray, List.set_cons_zero, List.set_cons_succ, i64_w, i32_w]
              rfl
            refine one_ (i := 6) (N := some 46) #[true, true, true, true, true, true, true, true, true, false, false] rfl rfl (one_of HT_.out (by kernel_rfl)) (by decide) (fun K hK => ?_)
            refine Kd.R_append_rows_step (Kd.int .u8) (w0 := w) w.heap.size (by rfl) (.tmp 44) (.tmp 45) 26 5 (.int .u8 0) 1 rfl Try.underlying26 info5 rfl (by decide) (by omega) v198 y197 t187 _ _ _ (fun k_ => some k_ ≠ (.slice Ao25 t179.length co25 : Value).ownBlock ∧ some k_ ≠ (.slice Ao27 t183.length co27 : Value).ownBlock ∧ some k_ ≠ (.slice Ao29 t187.length co29 : Value).ownBlock) (fun _ => False) rfl rfl ?aO ?aR (fun _ _ h => h) (fun _ h => h.elim) ?aF ?aB ?aS ?aL ?_
            (case aR => repeat (first | exact (Kd.R_reads' HO190.out).2.2 | (with_reducible refine Kd.C_alloc ?_ _) | (with_reducible refine Kd.C_drewN ?_ _) | (with_reducible refine Kd.C_drew ?_)))
            (case aB => exact (by repeat (first | (with_reducible first | exact HB.out | apply below_alloc | apply pw_below_drewN | apply below_drew1 | refine below_set ?_ GE177.out) | exact HB.out)))
            (case aF => exact (fun k_ hk => ⟨Kd.fresh' (Kd.R_lt (by (with_reducible repeat (first | apply Kd.R_alloc | apply Kd.R_drewN | apply Kd.R_drew)); exact HO182.out)) k_ hk, Kd.fresh' (Kd.R_lt (by (with_reducible repeat (first | apply Kd.R_alloc | apply Kd.R_drewN | apply Kd.R_drew)); exact HO186.out)) k_ hk, Kd.fresh' (Kd.R_lt (by (with_reducible repeat (first | apply Kd.R_alloc | apply Kd.R_drewN | apply Kd.R_drew)); exact HO190.out)) k_ hk⟩))
            (case aO => exact (by (with_reducible repeat (first | apply Kd.R_alloc | apply Kd.R_drewN | apply Kd.R_drew)); exact HO199.out))
            (case aS => exact (below_size (by repeat (first | (with_reducible first | exact HB.out | apply below_alloc | apply pw_below_drewN | apply below_drew1 | refine below_set ?_ GE177.out) | exact HB.out))))
            (case aL => have := LMc9.out; omega)
            intro v201 w28 ho hb hg hat
            rw [← Ny200.out] at ho
            have n0_ := Aside0.mk (blk_grown (g := gb177) (o := .cells #[.int .i64 a0_0, .int .i64 a0_1, .int .i64 a0_2, .int .i64 a0_3, .slice A0_4 l0_4.length c0_4] 69 (0, 0)) (by (with_reducible repeat (first | refine blk_drewN ?_ _ | refine blk_drew ?_ | refine blk_alloc ?_ _)); exact BK177.out) hg (Kd.R_ne HO199.out BK177.out (by decide)))
            have n1_ := Aside0.mk (Kd.R_after (ok := (fun k_ => some k_ ≠ (.slice Ao27 t183.length co27 : Value).ownBlock ∧ some k_ ≠ (.slice Ao29 t187.length co29 : Value).ownBlock)) (by (with_reducible repeat (first | apply Kd.R_alloc | apply Kd.R_drewN | apply Kd.R_drew)); exact HO182.out) hg hat)
            have n2_ := Aside0.mk (Kd.R_after (ok := (fun k_ => some k_ ≠ (.slice Ao25 t179.length co25 : Value).ownBlock ∧ some k_ ≠ (.slice Ao29 t187.length co29 : Value).ownBlock)) (by (with_reducible repeat (first | apply Kd.R_alloc | apply Kd.R_drewN | apply Kd.R_drew)); exact HO186.out) hg hat)
            have n3_ := Aside0.mk (Kd.R_after (ok := (fun k_ => some k_ ≠ (.slice Ao25 t179.length co25 : Value).ownBlock ∧ some k_ ≠ (.slice Ao27 t183.length co27 : Value).ownBlock)) (by (with_reducible repeat (first | apply Kd.R_alloc | apply Kd.R_drewN | apply Kd.R_drew)); exact HO190.out) hg hat)
            have n4_ := Aside0.mk (hb)
            have n5_ := Aside0.mk (ho)
            clear BK177
            clear HO182
            clear HO186
            clear HO190
            clear HB
            clear HO199
            have BK177 := n0_
            have HO182 := n1_
            have HO186 := n2_
            have HO190 := n3_
            have HB := n4_
            have HO202 := n5_
            clear n0_ n1_ n2_ n3_ n4_ n5_
            clear ho hb hg hat
            refine hK.out _ _ ⟨(blk_cell BK177.out 0).trans rfl, (blk_cell BK177.out 1).trans rfl, (blk_cell BK177.out 2).trans rfl, (blk_cell BK177.out 3).trans rfl, (blk_cell BK177.out 4).trans rfl⟩ (fun hHeld => ?_)
            clear hK K
            refine norm_ (a' := ?_) ?_ ?_
            rotate_left
            · show Act.put _ (some 46) _ = _
              simp only [Act.put, List.setIfInBounds_toArray, List.set_cons_zero, List.set_cons_succ, i64_w, i32_w]
              rfl
            refine one_ (i := 9) (N := some 49) #[true, true, true, true, true, true, true, true, true, true, false] rfl rfl (one_of HT_.out (by kernel_rfl)) (by decide) (fun K hK => ?_)
            refine Kd.R_append_rows_step (Kd.int .u8) (w0 := w) w.heap.size (by rfl) (.tmp 46) (.tmp 48) 26 5 (.int .u8 0) 1 rfl Try.underlying26 info5 rfl (by decide) (by omega) v201 y200 l0_4 _ _ _ (fun k_ => some k_ ≠ (.slice Ao25 t179.length co25 : Value).ownBlock ∧ some k_ ≠ (.slice Ao27 t183.length co27 : Value).ownBlock ∧ some k_ ≠ (.slice Ao29 t187.length co29 : Value).ownBlock) (fun _ => False) rfl rfl ?aO ?aR (fun _ _ h => h) (fun _ h => h.elim) ?aF ?aB ?aS ?aL ?_
            (case aR => repeat (first | exact (Kd.C_below HR0_4.out HB.out) | (with_reducible refine Kd.C_alloc ?_ _) | (with_reducible refine Kd.C_drewN ?_ _) | (with_reducible refine Kd.C_drew ?_)))
            (case aB => exact (by repeat (first | (with_reducible first | exact HB.out | apply below_alloc | apply pw_below_drewN | apply below_drew1 | refine below_set ?_ GE177.out) | exact HB.out)))
            (case aF => exact (fun k_ hk => ⟨Kd.fresh' (Kd.R_lt (by (with_reducible repeat (first | apply Kd.R_alloc | apply Kd.R_drewN | apply Kd.R_drew)); exact HO182.out)) k_ hk, Kd.fresh' (Kd.R_lt (by (with_reducible repeat (first | apply Kd.R_alloc | apply Kd.R_drewN | apply Kd.R_drew)); exact HO186.out)) k_ hk, Kd.fresh' (Kd.R_lt (by (with_reducible repeat (first | apply Kd.R_alloc | apply Kd.R_drewN | apply Kd.R_drew)); exact HO190.out)) k_ hk⟩))
            (case aO => exact (by (with_reducible repeat (first | apply Kd.R_alloc | apply Kd.R_drewN | apply Kd.R_drew)); exact HO202.out))
            (case aS => exact (below_size (by repeat (first | (with_reducible first | exact HB.out | apply below_alloc | apply pw_below_drewN | apply below_drew1 | refine below_set ?_ GE177.out) | exact HB.out))))
            (case aL => have := LMc10.out; omega)
            intro v204 w30 ho hb hg hat
            rw [← Ny203.out] at ho
            have n0_ := Aside0.mk (blk_grown (g := gb177) (o := .cells #[.int .i64 a0_0, .int .i64 a0_1, .int .i64 a0_2, .int .i64 a0_3, .slice A0_4 l0_4.length c0_4] 69 (0, 0)) (by (with_reducible repeat (first | refine blk_drewN ?_ _ | refine blk_drew ?_ | refine blk_alloc ?_ _)); exact BK177.out) hg (Kd.R_ne HO202.out BK177.out (by decide)))
            have n1_ := Aside0.mk (Kd.R_after (ok := (fun k_ => some k_ ≠ (.slice Ao27 t183.length co27 : Value).ownBlock ∧ some k_ ≠ (.slice Ao29 t187.length co29 : Value).ownBlock)) (by (with_reducible repeat (first | apply Kd.R_alloc | apply Kd.R_drewN | apply Kd.R_drew)); exact HO182.out) hg hat)
            have n2_ := Aside0.mk (Kd.R_after (ok := (fun k_ => some k_ ≠ (.slice Ao25 t179.length co25 : Value).ownBlock ∧ some k_ ≠ (.slice Ao29 t187.length co29 : Value).ownBlock)) (by (with_reducible repeat (first | apply Kd.R_alloc | apply Kd.R_drewN | apply Kd.R_drew)); exact HO186.out) hg hat)
            have n3_ := Aside0.mk (Kd.R_after (ok := (fun k_ => some k_ ≠ (.slice Ao25 t179.length co25 : Value).ownBlock ∧ some k_ ≠ (.slice Ao27 t183.length co27 : Value).ownBlock)) (by (with_reducible repeat (first | apply Kd.R_alloc | apply Kd.R_drewN | apply Kd.R_drew)); exact HO190.out) hg hat)
            have n4_ := Aside0.mk (hb)
            have n5_ := Aside0.mk (ho)
            clear BK177
            clear HO182
            clear HO186
            clear HO190
            clear HB
            clear HO202
            have BK177 := n0_
            have HO182 := n1_
            have HO186 := n2_
            have HO190 := n3_
            have HB := n4_
            have HO205 := n5_
            clear n0_ n1_ n2_ n3_ n4_ n5_
            clear ho hb hg hat
            refine hK.out _ _ ⟨(blk_cell BK177.out 0).trans rfl, (blk_cell BK177.out 1).trans rfl, (blk_cell BK177.out 2).trans rfl, (blk_cell BK177.out 3).trans rfl, (blk_cell BK177.out 4).trans rfl⟩ (fun hHeld => ?_)
            clear hK K
            refine norm_ (a' := ?_) ?_ ?_
            rotate_left
            · show Act.put _ (some 49) _ = _
              simp only [Act.put, List.setIfInBounds_toArray, List.set_cons_zero, List.set_cons_succ, i64_w, i32_w]
              rfl
            refine pure_ (i := 10) (N := some 10) (v := ?_) (a' := ?_) #[true, true, true, true, true, true, true, true, true, true, true] rfl rfl (any_of HT_.out (by kernel_rfl)) (fun _ _ _ h => h) (Or.inl ⟨by rfl, ?_⟩) ?_ ?_
            rotate_left
            · intro w'
              go_simp
              with_reducible rfl
            rotate_left
            · simp only [Act.put, List.setIfInBounds_toArray, List.set_cons_zero, List.set_cons_succ, i64_w, i32_w]
              rfl
            refine done_ (done_of HT_.out (by kernel_rfl)) ?_
            try go_wp2
            go_loopg [10] k (fun kq v10 w' => ∃ (x10_1 : List Int), Aside0 (chantryref07_Put.l0 kq x10_1 = some (r1, r2)) ∧ Aside0 (kq ≤ k) ∧ Aside0 (Kd.R (Kd.int .u8) 5 w' w.heap.size (fun _ => True) v10 x10_1) ∧ Aside0 (w'.heap[gb177]? = some (.cells #[.int .i64 a0_0, .int .i64 a0_1, .int .i64 a0_2, .int .i64 a0_3, (.slice A0_4 l0_4.length c0_4)] 69 (0, 0))) ∧ Aside0 (Below w.heap.size w w'))
            case atStart => exact ⟨(y203), H', ⟨Nat.le_refl _⟩, ⟨by (with_reducible repeat (first | apply Kd.R_alloc | apply Kd.R_drewN | apply Kd.R_drew)); exact Kd.R_mono HO205.out (fun _ hk => trivial)⟩, ⟨by (with_reducible repeat (first | refine blk_drewN ?_ _ | refine blk_drew ?_ | refine blk_alloc ?_ _)); exact BK177.out⟩, ⟨by repeat (first | (with_reducible first | exact HB.out | apply below_alloc | apply pw_below_drewN | apply below_drew1 | refine below_set ?_ GE177.out) | exact HB.out)⟩⟩
            case round =>
              clear H'
              try clear c1
              try clear c2
              try clear p2
              try clear c3
              try clear c7
              try clear c8
              try clear c9
              try clear c10
              try clear c29
              try clear c30
              try clear hcz12_0
              try clear hcz12_1
              try clear hcz12_2
              try clear hcz12_3
              try clear hcz12_4
              try clear hcz14_0
              try clear hcz14_1
              try clear hcz14_2
              try clear hcz14_3
              try clear hcz14_4
              try clear hcz16_0
              try clear hcz16_1
              try clear hcz16_2
              try clear hcz16_3
              try clear hcz16_4
              try clear hcz18_0
              try clear hcz18_1
              try clear hcz18_2
              try clear hcz18_3
              try clear hcz18_4
              try clear hcz20_0
              try clear hcz20_1
              try clear hcz20_2
              try clear hcz20_3
              try clear hcz20_4
              try clear hfz12_0
              try clear hfz12_1
              try clear hfz12_2
              try clear hfz12_3
              try clear hfz12_4
              try clear hfz14_0
              try clear hfz14_1
              try clear hfz14_2
              try clear hfz14_3
              try clear hfz14_4
              try clear hfz16_0
              try clear hfz16_1
              try clear hfz16_2
              try clear hfz16_3
              try clear hfz16_4
              try clear hfz18_0
              try clear hfz18_1
              try clear hfz18_2
              try clear hfz18_3
              try clear hfz18_4
              try clear hfz20_0
              try clear hfz20_1
              try clear hfz20_2
              try clear hfz20_3
              try clear hfz20_4
              obtain ⟨x10_1, HA, HK1, HO_10, BK177, HB⟩ := hrel
              cases gk with
              | zero => exact absurd HA.out (by simp [chantryref07_Put.l0])
              | succ k1 =>
                have H := HA.out
                clear HA
                simp only [chantryref07_Put.l0] at H
                by_cases c31 : (x10_1.length : Int) < 60
                · rw [if_pos c31] at H
                  have c31b0 : decide ((x10_1.length : Int) < 60) = true := decide_eq_true c31
                  have c31b1 : decide (x10_1.length < 60) = true := decide_eq_true (by omega)
                  clear c31
                  by_cases c32 : x10_1.length < 140737488355328
                  · rw [if_pos c32] at H
                    have LMc32 := Aside0.mk c32
                    clear c32
                    obtain ⟨y206, hy206⟩ : ∃ y_ : List Int, y_ = (x10_1 ++ [0]) := ⟨_, rfl⟩
                    replace H : (chantryref07_Put.l0 k1 y206) = some (r1, r2) := by first | (rw [hy206]; with_reducible exact H) | (have H2_ := (Option.bind_some _ _).symm.trans H; rw [hy206]; with_reducible exact H2_) | (have H2_ := (Option.bind_some _ _).symm.trans H; with_reducible exact H2_) | with_reducible exact H | (rw [hy206]; exact H) | exact H
                    have Ny206 := Aside0.mk hy206
                    clear hy206
                    have H' := Aside0.mk H
                    clear H
                    obtain ⟨Ao33, co33, eo33⟩ := Kd.R_slice HO_10.out
                    subst eo33
                    go_wp2_with (first | ((with_reducible refine gate_builtin (b := .append) (xs := #[.tmp 53, .tmp 54]) rfl ?_); at_builtin; refine Kd.R_append (Kd.int .u8) (w0 := w) w.heap.size rfl (.tmp 53) (.tmp 54) 26 5 (.int .u8 0) 1 rfl Try.underlying26 info5 rfl (by decide) (by omega) (.slice Ao33 x10_1.length co33) x10_1 0 [.int .u8 0] (fun _ => True) (fun _ => False) rfl rfl ?aP (fun _ hk => hk.elim) ?aF ?aO ?aB ?aS ?aL ?_; (case aP => exact rfl); (case aB => exact (by repeat (first | (with_reducible first | exact HB.out | apply below_alloc | apply pw_below_drewN | apply below_drew1 | refine below_set ?_ GE177.out) | exact HB.out))); (case aF => exact (fun _ _ => trivial)); (case aO => exact (by (with_reducible repeat (first | apply Kd.R_alloc | apply Kd.R_drewN | apply Kd.R_drew)); exact HO_10.out)); (case aS => exact (below_size (by repeat (first | (with_reducible first | exact HB.out | apply below_alloc | apply pw_below_drewN | apply below_drew1 | refine below_set ?_ GE177.out) | exact HB.out)))); (case aL => have := LMc32.out; omega); intro v207 w34 ho hb hg hat; rw [← Ny206.out] at ho; have n0_ := Aside0.mk (blk_grown (g := gb177) (o := .cells #[.int .i64 a0_0, .int .i64 a0_1, .int .i64 a0_2, .int .i64 a0_3, .slice A0_4 l0_4.length c0_4] 69 (0, 0)) (by (with_reducible repeat (first | refine blk_drewN ?_ _ | refine blk_drew ?_ | refine blk_alloc ?_ _)); exact BK177.out) hg (Kd.R_ne HO_10.out BK177.out (by decide))); have n1_ := Aside0.mk (hb); have n2_ := Aside0.mk (ho); clear BK177; clear HB; clear HO_10; have BK177 := n0_; have HB := n1_; have HO208 := n2_; clear n0_ n1_ n2_; clear ho hb hg hat))
                    go_roundg k1
                    case measure => have := HK1.out; omega
                    case rel => exact ⟨(y206), H', ⟨by have := HK1.out; omega⟩, ⟨by (with_reducible repeat (first | apply Kd.R_alloc | apply Kd.R_drewN | apply Kd.R_drew)); exact HO208.out⟩, ⟨by (with_reducible repeat (first | refine blk_drewN ?_ _ | refine blk_drew ?_ | refine blk_alloc ?_ _)); exact BK177.out⟩, ⟨by repeat (first | (with_reducible first | exact HB.out | apply below_alloc | apply pw_below_drewN | apply below_drew1 | refine below_set ?_ GE177.out) | exact HB.out)⟩⟩
                  · rw [if_neg c32] at H
                    exact absurd H (by simp)
                · rw [if_neg c31] at H
                  have c31b0 : decide ((x10_1.length : Int) < 60) = false := decide_eq_false c31
                  have c31b1 : decide (x10_1.length < 60) = false := decide_eq_false (by omega)
                  clear c31
                  replace H := Option.bind_eq_some_iff.mp H
                  obtain ⟨t209, A350, H⟩ := H
                  replace H : (some (t209, 0)) = some (r1, r2) := H
                  have A35 := Aside0.mk A350
                  clear A350
                  simp only [Option.some.injEq, Prod.mk.injEq] at H
                  obtain ⟨rfl, rfl⟩ := H
                  obtain ⟨Ao36, co36, eo36⟩ := Kd.R_slice HO_10.out
                  subst eo36
                  go_wp2_with (first | ((with_reducible refine gate_callee (f := 71) rfl ?_); refine goesL_ (some 57) rfl rfl Try.func71 (by kernel_rfl) rfl #[.slice Ao36 x10_1.length co36] rfl (by (try simp only [List.map_toArray, List.map_cons, List.map_nil]); first | done | rfl | (simp only [List.length_drop, List.length_take]; rfl)) ?_; (with_reducible refine (chantryref02_Seal.calls k1 _ _ x10_1 t209 _ ?side1 ?side2 A35.out).mono ?_); (case side1 => repeat (first | exact (Kd.R_reads' HO_10.out).2.2 | (with_reducible refine Kd.C_alloc ?_ _) | (with_reducible refine Kd.C_drewN ?_ _) | (with_reducible refine Kd.C_drew ?_))); (case side2 => exact (Kd.R_reads' HO_10.out).2.1); rintro e w37 ⟨v210, rfl, ho0, hb⟩; refine ⟨_, rfl, ?_⟩; have n0_ := Aside0.mk (Kd.R_elder' (by (with_reducible repeat (first | apply Kd.R_alloc | apply Kd.R_drewN | apply Kd.R_drew)); exact HO_10.out) (Kd.R_base ho0) hb); have n1_ := Aside0.mk (Kd.R_lower (Kd.R_new' ho0 (Kd.R_lt (by (with_reducible repeat (first | apply Kd.R_alloc | apply Kd.R_drewN | apply Kd.R_drew)); exact HO_10.out))) (below_size (by repeat (first | (with_reducible first | exact HB.out | apply below_alloc | apply pw_below_drewN | apply below_drew1 | refine below_set ?_ GE177.out) | exact HB.out)))); have n2_ := Aside0.mk (blk_below (g := gb177) (o := .cells #[.int .i64 a0_0, .int .i64 a0_1, .int .i64 a0_2, .int .i64 a0_3, .slice A0_4 l0_4.length c0_4] 69 (0, 0)) (by (with_reducible repeat (first | refine blk_drewN ?_ _ | refine blk_drew ?_ | refine blk_alloc ?_ _)); exact BK177.out) hb); have n3_ := Aside0.mk (below_step (by repeat (first | (with_reducible first | exact HB.out | apply below_alloc | apply pw_below_drewN | apply below_drew1 | refine below_set ?_ GE177.out) | exact HB.out)) hb); clear HO_10; clear BK177; clear HB; have HO_10 := n0_; have HO211 := n1_; have BK177 := n2_; have HB := n3_; clear n0_ n1_ n2_ n3_; (try clear hb); (try clear hb2); (try clear hk); (try clear hi); (try clear ho0)))
                  go_ret2
                  exact ⟨_, by first | rfl | (simp [errW_none, errW_some] <;> rfl) | (simp [*, errW_none, errW_some] <;> rfl), by (with_reducible repeat (first | apply Kd.R_alloc | apply Kd.R_drewN | apply Kd.R_drew)); exact Kd.R_mono HO211.out (fun _ hk => trivial), by repeat (first | (with_reducible first | exact HB.out | apply below_alloc | apply pw_below_drewN | apply below_drew1 | refine below_set ?_ GE177.out) | exact HB.out)⟩
          · rw [if_neg c10] at H
            exact absurd H (by simp)
        · rw [if_neg c9] at H
          exact absurd H (by simp)
      · rw [if_neg c8] at H
        exact absurd H (by simp)
    · rw [if_neg c7] at H
      exact absurd H (by simp)
  · replace c3 := Bool.eq_false_iff.mpr c3
    subst c3
    have H1 : (some (([] : List Int), 1)) = some (r1, r2) := by rw [if_neg (show ¬ (false = true) by decide)] at H; exact H
    clear H
    have H := H1
    clear H1
    simp only [Option.some.injEq, Prod.mk.injEq] at H
    obtain ⟨rfl, rfl⟩ := H
    go_enter Try.func30, Try.ntmps30
    go_wp2_with (first | ((with_reducible refine gate_dst (N := 1) rfl ?_); refine box_event ?hg (N := 1) ?hd (cs := #[.int .i64 a0_0, .int .i64 a0_1, .int .i64 a0_2, .int .i64 a0_3, .slice A0_4 l0_4.length c0_4]) (t := 69) ?hr ?_; (case hd => rfl); (case hg => rfl); (case hr => first | (go_simp; done) | (go_simp; rfl)); intro gb177 hg w38 hbox hb; have n0_ := Aside0.mk (below_step (by repeat (first | (with_reducible first | exact HB.out | apply below_alloc | apply pw_below_drewN | apply below_drew1) | exact HB.out)) hb); have n1_ := Aside0.mk (hbox); have n2_ := Aside0.mk ((by rw [hg]; exact (below_size (by repeat (first | (with_reducible first | exact HB.out | apply below_alloc | apply pw_below_drewN | apply below_drew1) | exact HB.out))) : w.heap.size ≤ gb177)); have n3_ := Aside0.mk ((by rw [hg]; exact (below_size (by repeat (first | (with_reducible first | exact HB.out | apply below_alloc | apply pw_below_drewN | apply below_drew1) | exact HB.out))) : w.heap.size ≤ gb177)); clear HB; have HB := n0_; have BK177 := n1_; have GW177 := n2_; have GE177 := n3_; clear n0_ n1_ n2_ n3_; clear hb hbox hg; have hcz39_0 : w38.cell? ⟨gb177, 0, none⟩ = some (.int .i64 a0_0) := (blk_cell BK177.out 0).trans rfl; have hcz39_1 : w38.cell? ⟨gb177, 1, none⟩ = some (.int .i64 a0_1) := (blk_cell BK177.out 1).trans rfl; have hcz39_2 : w38.cell? ⟨gb177, 2, none⟩ = some (.int .i64 a0_2) := (blk_cell BK177.out 2).trans rfl; have hcz39_3 : w38.cell? ⟨gb177, 3, none⟩ = some (.int .i64 a0_3) := (blk_cell BK177.out 3).trans rfl; have hcz39_4 : w38.cell? ⟨gb177, 4, none⟩ = some (.slice A0_4 l0_4.length c0_4) := (blk_cell BK177.out 4).trans rfl; have hfz39_0 := blk_frozen BK177.out 0; have hfz39_1 := blk_frozen BK177.out 1; have hfz39_2 := blk_frozen BK177.out 2; have hfz39_3 := blk_frozen BK177.out 3; have hfz39_4 := blk_frozen BK177.out 4) | ((with_reducible refine gate_callee (f := 70) rfl ?_); refine goesL_ (some 12) rfl rfl Try.func70 (by kernel_rfl) rfl #[.agg #[.int .i64 a0_0, .int .i64 a0_1, .int .i64 a0_2, .int .i64 a0_3, .slice A0_4 l0_4.length c0_4]] rfl (by (try simp only [List.map_toArray, List.map_cons, List.map_nil]); first | done | rfl | (simp only [List.length_drop, List.length_take]; rfl)) ?_; (with_reducible refine (chantryref07_may.calls a0_0 a0_1 a0_2 a0_3 _ _ l0_4 false _ ?side1 ?side2 A2.out).mono ?_); (case side1 => repeat (first | exact (Kd.C_below HR0_4.out HB.out) | (with_reducible refine Kd.C_alloc ?_ _) | (with_reducible refine Kd.C_drewN ?_ _) | (with_reducible refine Kd.C_drew ?_))); (case side2 => exact HC0_4.out); rintro e w40 ⟨rfl, hb⟩; refine ⟨_, rfl, ?_⟩; have n0_ := Aside0.mk (blk_below (g := gb177) (o := .cells #[.int .i64 a0_0, .int .i64 a0_1, .int .i64 a0_2, .int .i64 a0_3, .slice A0_4 l0_4.length c0_4] 69 (0, 0)) (by (with_reducible repeat (first | refine blk_drewN ?_ _ | refine blk_drew ?_ | refine blk_alloc ?_ _)); exact BK177.out) hb); have n1_ := Aside0.mk (below_step (by repeat (first | (with_reducible first | exact HB.out | apply below_alloc | apply pw_below_drewN | apply below_drew1 | refine below_set ?_ GE177.out) | exact HB.out)) hb); clear BK177; clear HB; have BK177 := n0_; have HB := n1_; clear n0_ n1_; (try clear hb); (try clear hb2); (try clear hk); (try clear hi)))
    go_ret2
    exact ⟨_, by first | rfl | (simp [errW_none, errW_some] <;> rfl) | (simp [*, errW_none, errW_some] <;> rfl), by first | exact Kd.R_nil _ _ _ _ _ | exact Kd.N_nil _ _ _ _ _ | exact Kd.V_nil _ _ _ _ _ | exact Kd.Q_nil _ _ _ _ _ | exact Kd.S_nil _ _ _ _ _, by repeat (first | (with_reducible first | exact HB.out | apply below_alloc | apply pw_below_drewN | apply below_drew1 | refine below_set ?_ GE177.out) | exact HB.out)⟩
end Go.Proofs.Ytopfjmeejpamjaa.PSectorGets
end
section
namespace Go.Proofs.Ytopfjmeejpamjaa
set_option linter.unusedVariables false
set_option linter.unusedSimpArgs false
set_option linter.ambiguousOpen false
open Go.RowKit Go.Proofs.YtopfjmeejpamjaaW.PrintWords Go.Proofs.YtopfjmeejpamjaaW.PrintLast Go.Proofs.YtopfjmeejpamjaaW.PrintMore
namespace Sect
open Go.Num Go.Crc Go.Proofs.Ytopfjmeejpamjaa.Cell
theorem xput_l0 : ∀ (j : Nat) (b : List Int), b.length + j = 60 → (∀ x ∈ b, 0 ≤ x ∧ x ≤ 255) → PSectorGets.chantryref07_Put.l0 (661 + j + 1) b = some (sealB (b ++ List.replicate j 0), 0)
  | 0, b, h, hb => by
    rw [PSectorGets.chantryref07_Put.l0, if_neg (by omega)]
    have := xseal_plain 0 b hb (by omega)
    rw [show 0 + 11 * b.length + 1 = 661 by omega] at this
    rw [show PSectorGets.chantryref02_Seal.f (661 + 0) b = some (sealB b) from this]
    simp
  | j + 1, b, h, hb => by
    rw [show 661 + (j + 1) + 1 = (661 + j + 1) + 1 by omega]
    rw [PSectorGets.chantryref07_Put.l0]
    rw [if_pos (by omega), if_pos (by omega), xput_l0 j (b ++ [0]) (by rw [List.length_append]; show b.length + 1 + j = 60; omega) (fun x hx => by
      rcases List.mem_append.1 hx with hx | hx
      · exact hb x hx
      · rw [List.mem_singleton.1 hx]; omega)]
    rw [List.append_assoc, List.replicate_succ]
    rfl
theorem xmay_plain (k e n l : Int) (d : List Int) : PSectorGets.chantryref07_may.f k e n l d = some (secOk k e n l d) := by
  unfold PSectorGets.chantryref07_may.f secOk
  repeat' split
  all_goals first | (congr 1; exact decide_eq_decide.2 (by omega)) | (congr 1; exact (decide_eq_false (by omega)).symm)
theorem xput_plain (k e n l : Int) (d : List Int) (hb : ∀ y ∈ d, 0 ≤ y ∧ y ≤ 255) : ∃ f, PSectorGets.chantryref07_Put.f f k e n l d = some (putS k e n l d) := by
  by_cases hc : secOk k e n l d = true
  · obtain ⟨h1, h2, h3, h4, h5, h6, h7, h8, h9⟩ := ok_parts hc
    refine ⟨661 + (48 - d.length) + 1, ?_⟩
    unfold PSectorGets.chantryref07_Put.f
    rw [xmay_plain, hc, put_body hc]
    simp only [Option.bind_some, if_true]
    have q1 : PSectorGets.chantryref01_Fix.f (661 + (48 - d.length) + 1) l 2 = some (leB l 2, 0) := by
      show PCellGets.chantryref01_Fix.f _ _ _ = _
      rw [xfix_any _ (by omega), show (2 : Int) = ((2 : Nat) : Int) from rfl, fix_ok l 2 (by omega) ⟨h3, by omega, by omega⟩]
    have q2 : PSectorGets.chantryref01_Fix.f (661 + (48 - d.length) + 1) e 4 = some (leB e 4, 0) := by
      show PCellGets.chantryref01_Fix.f _ _ _ = _
      rw [xfix_any _ (by omega), show (4 : Int) = ((4 : Nat) : Int) from rfl, fix_ok e 4 (by omega) ⟨h5, by omega, by omega⟩]
    have q3 : PSectorGets.chantryref01_Fix.f (661 + (48 - d.length) + 1) n 4 = some (leB n 4, 0) := by
      show PCellGets.chantryref01_Fix.f _ _ _ = _
      rw [xfix_any _ (by omega), show (4 : Int) = ((4 : Nat) : Int) from rfl, fix_ok n 4 (by omega) ⟨h7, by omega, by omega⟩]
    rw [q1, q2, q3]
    simp only [Option.bind_some]
    have hh : [k % 256, (d.length : Int) % 256] ++ leB l 2 ++ leB e 4 ++ leB n 4 ++ d = headS k e n l d ++ d := by
      unfold headS
      rw [leB1_eq k, leB1_eq (d.length : Int)]
      simp
    rw [if_pos (by simp [leB_len]), if_pos (by simp [leB_len]), if_pos (by simp [leB_len]), if_pos (by simp [leB_len]; omega), hh]
    rw [xput_l0 _ _ (by rw [List.length_append, headS_len]; omega) (fun y hy => by
      rcases List.mem_append.1 hy with h | h
      · exact headS_byte _ _ _ _ _ y h
      · exact hb y h)]
    rfl
  · refine ⟨0, ?_⟩
    unfold PSectorGets.chantryref07_Put.f putS
    rw [xmay_plain, Bool.eq_false_iff.2 hc]
    rfl
theorem xput_any {w : World} (k e n l : Int) (A : Option Addr) (c : Nat) (d : List Int) (hC : Kd.C (Kd.int .u8) w A d.length d) (hc : d.length ≤ c) (hb : ∀ y ∈ d, 0 ≤ y ∧ y ≤ 255) :
    Calls Try.prog 30 #[.agg #[.int .i64 k, .int .i64 e, .int .i64 n, .int .i64 l, .slice A d.length c]] w fun z w' => ∃ v, z = .returned (.tuple #[v, .int .i64 (putS k e n l d).2]) ∧ Kd.R (Kd.int .u8) 5 w' w.heap.size (fun _ => True) v (putS k e n l d).1 ∧ Below w.heap.size w w' := by
  obtain ⟨f, hf⟩ := xput_plain k e n l d hb
  exact PSectorGets.chantryref07_Put.calls f k e n l A c d _ _ w hC hc hf
end Sect
end Go.Proofs.Ytopfjmeejpamjaa
end
section
namespace Go.Proofs.Ytopfjmeejpamjaa
set_option linter.unusedVariables false
set_option linter.unusedSimpArgs false
set_option linter.ambiguousOpen false
open Go.RowKit Go.Proofs.YtopfjmeejpamjaaW.PrintWords Go.Proofs.YtopfjmeejpamjaaW.PrintLast Go.Proofs.YtopfjmeejpamjaaW.PrintMore
namespace Sect
open Go.Num Go.Crc Go.Proofs.Ytopfjmeejpamjaa.Cell
theorem stable_R {w : World} {b : Nat} {ok : Nat → Prop} {A : Option Addr} {c t : Nat} {l : List Int} (h : Kd.R (Kd.int .u8) t w b ok (.slice A l.length c) l) : ∀ x, Below w.heap.size w x → Kd.C (Kd.int .u8) x A l.length l := fun x hx => by
  obtain ⟨A', c', e, hc⟩ := Kd.R_reads h
  cases e
  exact Kd.C_below hc.2 hx
theorem put_byte {k e n l : Int} {d : List Int} {P : List Int × Int} (hb : ∀ y ∈ d, 0 ≤ y ∧ y ≤ 255) (h : P = putS k e n l d) : ∀ y ∈ P.1, 0 ≤ y ∧ y ≤ 255 := by
  rw [h]
  unfold putS
  split
  · exact seal_byte (bodyS_byte _ _ _ _ _ hb)
  · intro y hy; cases hy
theorem get_any {w : World} (A : Option Addr) (c : Nat) (l : List Int) (hC : Kd.C (Kd.int .u8) w A l.length l) (hb : ∀ y ∈ l, 0 ≤ y ∧ y ≤ 255) (hc : l.length ≤ c) (hl : l.length ≤ 200000) :
    Calls Try.prog 31 #[.slice A l.length c] w fun e w' => ∃ A' c', e = .returned (.tuple #[.agg #[.int .i64 (getS l).1.k, .int .i64 (getS l).1.e, .int .i64 (getS l).1.n, .int .i64 (getS l).1.l, .slice A' (getS l).1.d.length c'], .int .i64 (getS l).2]) ∧ (getS l).1.d.length ≤ c' ∧ (∀ x, Below w'.heap.size w' x → Kd.C (Kd.int .u8) x A' (getS l).1.d.length (getS l).1.d) ∧ Below w.heap.size w w' := by
  by_cases h : l.length ≠ 64 ∨ (openP l).2 ≠ 0
  · refine (get_no A c l hC hb hc hl h).mono ?_
    rintro e w1 ⟨rfl, b⟩
    have hz : (getS l).1 = zeroS := by
      unfold getS
      by_cases h1 : l.length ≠ 64
      · rw [if_pos h1]
      · rw [if_neg h1, if_pos (h.resolve_left h1)]
    rw [hz]
    exact ⟨none, 0, rfl, Nat.le_refl _, fun x _ => nilC x, b⟩
  · have h1 : l.length = 64 := Classical.byContradiction (fun e => h (Or.inl e))
    have h2 : (openP l).2 = 0 := Classical.byContradiction (fun e => h (Or.inr e))
    refine (get_yes A c l hC hb hc h1 h2).mono ?_
    rintro e w1 ⟨v, rfl, hr, b⟩
    obtain ⟨A', c', rfl⟩ := Kd.R_slice hr
    exact ⟨A', c', rfl, (Kd.R_reads' hr).2.1, stable_R hr, b⟩
theorem get_byte (l : List Int) (hb : ∀ x ∈ l, 0 ≤ x ∧ x ≤ 255) : ∀ y ∈ (getS l).1.d, 0 ≤ y ∧ y ≤ 255 := by
  unfold getS
  split
  · intro y hy; simp [zeroS] at hy
  · split
    · intro y hy; simp [zeroS] at hy
    · rename_i h1 h2
      split
      · intro y hy
        exact own_byte hb (Classical.byContradiction h2) y (List.mem_of_mem_drop (List.mem_of_mem_take hy))
      · intro y hy; simp [zeroS] at hy
end Sect
end Go.Proofs.Ytopfjmeejpamjaa
end
section
namespace Go.Proofs.Ytopfjmeejpamjaa
set_option linter.unusedVariables false
set_option linter.unusedSimpArgs false
set_option linter.ambiguousOpen false
open Go.RowKit Go.Proofs.YtopfjmeejpamjaaW.PrintWords Go.Proofs.YtopfjmeejpamjaaW.PrintLast Go.Proofs.YtopfjmeejpamjaaW.PrintMore
namespace Sect
open Go.Num Go.Crc Go.Proofs.Ytopfjmeejpamjaa.Cell
structure GY (w0 w : World) (A : Option Addr) (c : Nat) (own : List Int) : Prop where
  below : Below w0.heap.size w0 w
  zero : w.heap[w0.heap.size]? = some (.cells #[.int .i64 0, .int .i64 0, .int .i64 0, .int .i64 0, .slice none 0 0] 69 (0, 0))
  row : ∀ x, Below w.heap.size w x → Kd.C (Kd.int .u8) x A own.length own
theorem GY.step {w0 w w' : World} {A : Option Addr} {c : Nat} {own : List Int} (h : GY w0 w A c own) (f : Below w.heap.size w w') : GY w0 w' A c own :=
  ⟨h.below.trans (f.mono h.below.size), (f.block _ (blk_lt h.zero)).trans h.zero, fun x hx => h.row x (f.trans (hx.mono f.size))⟩
theorem num1 (own : List Int) (hb : ∀ x ∈ own, 0 ≤ x ∧ x ≤ 255) (i : Nat) (hi : i < own.length) : numP ((own.drop i).take 1) = rd own (i : Int) := by
  have e : (own.drop i).take 1 = [own[i]] := by rw [List.drop_eq_getElem_cons hi]; rfl
  have h1 := unfix1 ((own.drop i).take 1) (by rw [e]; rfl) (take_byte hb i 1)
  unfold numP
  rw [h1.1, e, rd_get i hi]
  simp [unB]
theorem not8_5 (k : Nat) (v : Int) : (#[.int .i64 0, .int .i64 0, .int .i64 0, .int .i64 0, .slice none 0 0] : Array Value)[k]? ≠ some (.int .u8 v) := by
  intro h
  have h' : ([.int .i64 0, .int .i64 0, .int .i64 0, .int .i64 0, .slice none 0 0] : List Value)[k]? = some (.int .u8 v) := by simpa using h
  have := List.mem_of_getElem? h'
  simp at this
set_option maxHeartbeats 16000000 in
set_option maxRecDepth 100000 in
theorem xget_no {w : World} (A : Option Addr) (c : Nat) (l : List Int) (hC : Kd.C (Kd.int .u8) w A l.length l) (hb : ∀ y ∈ l, 0 ≤ y ∧ y ≤ 255) (hc : l.length ≤ c) (hl : l.length ≤ 200000) (hno : l.length ≠ 64 ∨ (openP l).2 ≠ 0) :
    Calls Try.prog 42 #[.slice A l.length c] w fun z w' => ∃ A' c', z = .returned (.tuple #[.agg #[.int .i64 (getS l).1.k, .int .i64 (getS l).1.e, .int .i64 (getS l).1.n, .int .i64 (getS l).1.l, .slice A' (getS l).1.d.length c'], .int .i64 (getS l).2]) ∧ (getS l).1.d.length ≤ c' ∧ (∀ x, Below w'.heap.size w' x → Kd.C (Kd.int .u8) x A' (getS l).1.d.length (getS l).1.d) ∧ Below w.heap.size w w' := by
  have HC := Aside0.mk hC
  have HBY := Aside0.mk hb
  clear hC hb
  obtain ⟨r, hr⟩ : ∃ r, r = getS l := ⟨_, rfl⟩
  rw [← hr]
  by_cases h64 : l.length ≠ 64
  · have HR5 := Aside0.mk (show r = (zeroS, 11) by rw [hr]; unfold getS; rw [if_pos h64])
    have hne : ((l.length : Int) != 64) = true := by simp; omega
    clear hr hno
    go_enter Try.func42, Try.ntmps42
    go_wp2_with fail
    refine bodyPost_ret (results_ct rfl _ _ w.heap.size 69 #[.int .i64 0, .int .i64 0, .int .i64 0, .int .i64 0, .slice none 0 0] (0, 0) _ rfl (heap_alloc_new w _) Try.underlying69 rfl (by kernel_rfl)) rfl ?_
    exact ⟨none, 0, by rw [HR5.out]; rfl, by rw [HR5.out]; exact Nat.le_refl _, fun x hx => by rw [HR5.out]; exact nilC x, (Below.refl _ _).alloc (Nat.le_refl _) _⟩
  · have h2 : l.length = 64 := by omega
    have h12 : (openP l).2 = 12 := by
      rcases open_err l with h | h
      · rcases hno with hn | hn
        · exact absurd h2 hn
        · exact absurd h hn
      · exact h
    have HR5 := Aside0.mk (show r = (zeroS, 12) by rw [hr]; unfold getS; rw [if_neg h64, if_pos (by rw [h12]; decide), h12])
    have HL := Aside0.mk h2
    have H12 := Aside0.mk h12
    rw [h2] at hc hl ⊢
    clear hr hno h64 h2 h12
    go_enter Try.func42, Try.ntmps42
    go_wp2_with fail
    obtain ⟨W, hW⟩ : ∃ W, W = w.alloc (.cells #[.int .i64 0, .int .i64 0, .int .i64 0, .int .i64 0, .slice none 0 0] 69) := ⟨_, rfl⟩
    have HB0 := Aside0.mk (show Below w.heap.size w W by rw [hW]; exact (Below.refl _ _).alloc (Nat.le_refl _) _)
    have HBX := Aside0.mk (show W.heap[w.heap.size]? = some (.cells #[.int .i64 0, .int .i64 0, .int .i64 0, .int .i64 0, .slice none 0 0] 69 (0, 0)) by rw [hW]; exact heap_alloc_new w _)
    rw [← hW]
    clear hW
    have hop := xopen_any A c l W (Kd.C_below HC.out HB0.out) HBY.out (by rw [HL.out]; omega) (by rw [HL.out]; omega)
    rw [HL.out, H12.out] at hop
    refine hop.mono ?_
    clear hop
    rintro e w1 ⟨A1, c1, rfl, _, _, b1⟩
    have HB1 := Aside0.mk (HB0.out.trans (b1.mono HB0.out.size))
    have HX1 := Aside0.mk ((b1.block _ (blk_lt HBX.out)).trans HBX.out)
    clear b1
    have z0 : w1.cell? ⟨w.heap.size, 0, none⟩ = some (.int .i64 0) := cell_blk HX1.out
    have z1 : w1.cell? ⟨w.heap.size, 1, none⟩ = some (.int .i64 0) := cell_blk HX1.out
    have z2 : w1.cell? ⟨w.heap.size, 2, none⟩ = some (.int .i64 0) := cell_blk HX1.out
    have z3 : w1.cell? ⟨w.heap.size, 3, none⟩ = some (.int .i64 0) := cell_blk HX1.out
    have z4 : w1.cell? ⟨w.heap.size, 4, none⟩ = some (.slice none 0 0) := cell_blk HX1.out
    have f0 : w1.frozen? ⟨w.heap.size, 0, none⟩ = false := frozen_blk HX1.out
    have f1 : w1.frozen? ⟨w.heap.size, 1, none⟩ = false := frozen_blk HX1.out
    have f2 : w1.frozen? ⟨w.heap.size, 2, none⟩ = false := frozen_blk HX1.out
    have f3 : w1.frozen? ⟨w.heap.size, 3, none⟩ = false := frozen_blk HX1.out
    have f4 : w1.frozen? ⟨w.heap.size, 4, none⟩ = false := frozen_blk HX1.out
    go_wp2_with fail
    refine bodyPost_ret (results_ct rfl _ _ w.heap.size 69 #[.int .i64 0, .int .i64 0, .int .i64 0, .int .i64 0, .slice none 0 0] (0, 0) _ rfl (five_set HX1.out _ _ _ _ _) Try.underlying69 rfl (by kernel_rfl)) rfl ?_
    exact ⟨none, 0, by rw [HR5.out]; rfl, by rw [HR5.out]; exact Nat.le_refl _, fun x hx => by rw [HR5.out]; exact nilC x, five_below HB1.out (Nat.le_refl _) _ _ _ _ _⟩
set_option maxHeartbeats 16000000 in
set_option maxRecDepth 100000 in
theorem xget_yes {w : World} (A : Option Addr) (c : Nat) (l : List Int) (hC : Kd.C (Kd.int .u8) w A l.length l) (hb : ∀ y ∈ l, 0 ≤ y ∧ y ≤ 255) (hc : l.length ≤ c) (h64 : l.length = 64) (h0 : (openP l).2 = 0) :
    Calls Try.prog 42 #[.slice A l.length c] w fun z w' => ∃ A' c', z = .returned (.tuple #[.agg #[.int .i64 (getS l).1.k, .int .i64 (getS l).1.e, .int .i64 (getS l).1.n, .int .i64 (getS l).1.l, .slice A' (getS l).1.d.length c'], .int .i64 (getS l).2]) ∧ (getS l).1.d.length ≤ c' ∧ (∀ x, Below w'.heap.size w' x → Kd.C (Kd.int .u8) x A' (getS l).1.d.length (getS l).1.d) ∧ Below w.heap.size w w' := by
  have HC := Aside0.mk hC
  have HBY := Aside0.mk hb
  have HL := Aside0.mk h64
  have H0 := Aside0.mk h0
  have HSE := Aside0.mk (open_ok l h0)
  obtain ⟨own, hown⟩ : ∃ own, own = (openP l).1 := ⟨_, rfl⟩
  have hlo : own.length = 60 := by rw [hown]; exact own_len h64 h0
  have hob : ∀ y ∈ own, 0 ≤ y ∧ y ≤ 255 := by rw [hown]; exact own_byte hb h0
  have HLO := Aside0.mk hlo
  have HOB := Aside0.mk hob
  obtain ⟨r, hr⟩ : ∃ r, r = getS l := ⟨_, rfl⟩
  rw [← hr]
  have HQ := Aside0.mk (show r = if okS own = true then (rawS own, 0) else (zeroS, 5) by rw [hr, hown]; unfold getS; rw [if_neg (by omega), if_neg (by omega)])
  have HOWN := Aside0.mk hown
  have HIFF := Aside0.mk (okS_iff own hlo hob)
  have hbt := fun (i : Nat) => rd_byte hob i
  obtain ⟨k, hk⟩ : ∃ z, z = rd own ((0 : Nat) : Int) := ⟨_, rfl⟩
  obtain ⟨lf, hlf⟩ : ∃ z, z = (unfixP ((own.drop 2).take 2)).1 := ⟨_, rfl⟩
  obtain ⟨e, he⟩ : ∃ z, z = (unfixP ((own.drop 4).take 4)).1 := ⟨_, rfl⟩
  obtain ⟨n, hn⟩ : ∃ z, z = (unfixP ((own.drop 8).take 4)).1 := ⟨_, rfl⟩
  obtain ⟨q4, hq4⟩ : ∃ z, z = (unfixP ((own.drop 4).take 4)).2 := ⟨_, rfl⟩
  obtain ⟨q8, hq8⟩ : ∃ z, z = (unfixP ((own.drop 8).take 4)).2 := ⟨_, rfl⟩
  have hsz : sizeS own = rd own ((1 : Nat) : Int) := num1 own hob 1 (by omega)
  obtain ⟨sn, hs⟩ : ∃ sn : Nat, (sn : Int) = rd own ((1 : Nat) : Int) := ⟨(rd own ((1 : Nat) : Int)).toNat, by have := (hbt 1).1; omega⟩
  have hs6 : sn ≤ 255 := by have := (hbt 1).2; omega
  have h22 := unfix2 ((own.drop 2).take 2) (by rw [List.length_take, List.length_drop, hlo]; omega) (take_byte hob 2 2)
  have HK := Aside0.mk hk
  have HSN := Aside0.mk hs
  have HLF := Aside0.mk hlf
  have HE := Aside0.mk he
  have HN := Aside0.mk hn
  have HQ4 := Aside0.mk hq4
  have HQ8 := Aside0.mk hq8
  have HSZ := Aside0.mk (show sizeS own = (sn : Int) from hsz.trans hs.symm)
  have HRAW := Aside0.mk (show q4 = 0 → q8 = 0 → rawS own = ⟨k, e, n, lf, (own.drop 12).take sn⟩ from fun a4 a8 => by
    unfold rawS
    rw [show sizeS own = (sn : Int) from hsz.trans hs.symm, Int.toNat_natCast, num1 own hob 0 (by omega), ← hk]
    have b4 : numP ((own.drop 4).take 4) = e := by unfold numP; rw [← hq4, a4, if_neg (by simp), he]
    have b8 : numP ((own.drop 8).take 4) = n := by unfold numP; rw [← hq8, a8, if_neg (by simp), hn]
    have b2 : numP ((own.drop 2).take 2) = lf := by unfold numP; rw [hlf, h22.1]; rfl
    rw [b4, b8, b2])
  clear hC hb h0 hown hlo hob hr hk hlf he hn hq4 hq8 hsz hs hbt h22
  rw [h64] at hc ⊢
  clear h64
  go_enter Try.func42, Try.ntmps42
  go_wp2_with fail
  obtain ⟨W, hW⟩ : ∃ W, W = w.alloc (.cells #[.int .i64 0, .int .i64 0, .int .i64 0, .int .i64 0, .slice none 0 0] 69) := ⟨_, rfl⟩
  have HB0 := Aside0.mk (show Below w.heap.size w W by rw [hW]; exact (Below.refl _ _).alloc (Nat.le_refl _) _)
  have HBX := Aside0.mk (show W.heap[w.heap.size]? = some (.cells #[.int .i64 0, .int .i64 0, .int .i64 0, .int .i64 0, .slice none 0 0] 69 (0, 0)) by rw [hW]; exact heap_alloc_new w _)
  rw [← hW]
  clear hW
  have hop := xopen_any A c l W (Kd.C_below HC.out HB0.out) HBY.out (by rw [HL.out]; omega) (by rw [HL.out]; omega)
  rw [HL.out, H0.out, ← HOWN.out, HLO.out] at hop
  refine hop.mono ?_
  clear hop
  rintro z w1 ⟨A1, c1, rfl, hc1, hrow, b1⟩
  obtain ⟨a, rfl⟩ : ∃ a, A1 = some a := by obtain ⟨a, ha, _⟩ := (hrow _ (Below.refl _ _)).2.2 (by omega); exact ⟨a, ha⟩
  have HG := Aside0.mk (show GY w w1 (some a) c1 own from ⟨HB0.out.trans (b1.mono HB0.out.size), (b1.block _ (blk_lt HBX.out)).trans HBX.out, fun x hx => by rw [HLO.out]; exact hrow x (below_steps b1 hx)⟩)
  clear hrow b1
  go_wp2_with fail
  have hu := xunfix_any (some (a.add 2)) (c1 - 2) ((own.drop 2).take 2) 2 (by rw [List.length_take, List.length_drop, HLO.out]; omega) (mid_C (HG.out.row _ (Below.refl _ _)) 2 2 (by rw [HLO.out]; omega)) (by omega) (take_byte HOB.out 2 2)
  rw [← HLF.out] at hu
  obtain ⟨q2, hq2⟩ : ∃ z, z = (unfixP ((own.drop 2).take 2)).2 := ⟨_, rfl⟩
  rw [← hq2] at hu
  clear hq2
  refine hu.mono ?_
  clear hu
  rintro z w2 ⟨rfl, b⟩
  have hg := HG.out.step b
  clear HG b
  have HG := Aside0.mk hg
  clear hg
  go_wp2_with fail
  have hu := xunfix_any (some (a.add 4)) (c1 - 4) ((own.drop 4).take 4) 4 (by rw [List.length_take, List.length_drop, HLO.out]; omega) (mid_C (HG.out.row _ (Below.refl _ _)) 4 4 (by rw [HLO.out]; omega)) (by omega) (take_byte HOB.out 4 4)
  rw [← HE.out] at hu
  rw [← HQ4.out] at hu
  refine hu.mono ?_
  clear hu
  rintro z w2 ⟨rfl, b⟩
  have hg := HG.out.step b
  clear HG b
  have HG := Aside0.mk hg
  clear hg
  go_wp2_with fail
  have hu := xunfix_any (some (a.add 8)) (c1 - 8) ((own.drop 8).take 4) 4 (by rw [List.length_take, List.length_drop, HLO.out]; omega) (mid_C (HG.out.row _ (Below.refl _ _)) 8 4 (by rw [HLO.out]; omega)) (by omega) (take_byte HOB.out 8 4)
  rw [← HN.out] at hu
  rw [← HQ8.out] at hu
  refine hu.mono ?_
  clear hu
  rintro z w2 ⟨rfl, b⟩
  have hg := HG.out.step b
  clear HG b
  have HG := Aside0.mk hg
  clear hg
  have hld : ∀ (x : World) (i : Nat), Below w2.heap.size w2 x → i < 60 → x.cell? (a.add i) = some (.int .u8 (rd own (i : Int))) := fun x i hx hi => by
    obtain ⟨ad, ea, h⟩ := Kd.at_int (HG.out.row x hx) (i : Int) (by omega) (by rw [HLO.out]; omega)
    cases ea
    rw [Int.toNat_natCast] at h
    exact h
  have HLD := Aside0.mk hld
  have hb1 : w2.cell? ⟨a.block, a.off + 1, none⟩ = some (.int .u8 (sn : Int)) := by
    have := hld w2 1 (Below.refl _ _) (by omega)
    rw [← HSN.out] at this
    exact this
  clear hld
  have ERR : ¬ okS own = true → r = (zeroS, 5) := fun h => by rw [HQ.out, if_neg h]
  have HERR := Aside0.mk ERR
  clear ERR
  by_cases h4 : q4 = 0
  · subst h4
    by_cases h8 : q8 = 0
    · subst h8
      by_cases hk48 : sn ≤ 48
      · have hd1 : decide ((48 : Int) < sn) = false := decide_eq_false (by omega)
        have HK48 := Aside0.mk hk48
        obtain ⟨d, hd⟩ : ∃ d, d = (own.drop 12).take sn := ⟨_, rfl⟩
        have hdl : d.length = sn := by rw [hd, List.length_take, List.length_drop, HLO.out]; omega
        have HD := Aside0.mk hd
        have HDL := Aside0.mk hdl
        clear hd hdl
        go_wp2_with fail
        have hm0 : ∀ m : Go.Reg.In (Below w2.heap.size w2), m.w.cell? a = some (.int .u8 k) := fun m => by
          have := HLD.out m.w 0 m.h (by omega)
          rw [← HK.out] at this
          exact this
        refine Go.Reg.region (Below w2.heap.size w2) [.s, .s, .s, .s, .s, .s, .s, .s, .s, .s, .s, .s, .w, .x] (by kernel_rfl) (by kernel_rfl) (below_drew1 (Below.refl _ _)) (fun ne => ?_)
        refine Go.Reg.lex_q 12 _ _ _ _ (by rfl) ?_; simp only [List.take_succ_cons, List.take_zero, List.drop_succ_cons, List.drop_zero]; (repeat (go_big_quiet_step (rfl))); refine wpQuiet_nil ?_
        clear hm0
        obtain ⟨a2, ha2⟩ : ∃ a2, a2 = (⟨a.block, a.off + 12, none⟩ : Addr) := ⟨_, rfl⟩
        have hmc : ∀ x, Below w2.heap.size w2 x → Kd.C (Kd.int .u8) x (some a2) d.length d := fun x hx => by
          have := mid_C (HG.out.row x hx) 12 sn (by rw [HLO.out]; omega)
          rw [← HD.out] at this
          rw [HDL.out, ha2]
          exact this
        rw [← ha2]
        clear ha2
        have HMC := Aside0.mk hmc
        clear hmc
        refine Go.Reg.step_w (fun KK hKK => ?_)
        go_wp2_with fail
        obtain ⟨w3, hw3⟩ : ∃ w3, w3 = (w2.alloc (.cells #[.int .i64 0, .int .i64 0, .int .i64 0, .int .i64 0, .slice none 0 0] 69)).drew := ⟨_, rfl⟩
        have hal : Below w2.heap.size w2 w3 := by rw [hw3]; exact below_drew1 ((Below.refl w2.heap.size w2).alloc (Nat.le_refl _) (.cells #[.int .i64 0, .int .i64 0, .int .i64 0, .int .i64 0, .slice none 0 0] 69))
        have hnb : w3.heap[w2.heap.size]? = some (.cells #[.int .i64 0, .int .i64 0, .int .i64 0, .int .i64 0, .slice none 0 0] 69 (0, 0)) := by rw [hw3]; exact heap_alloc_new w2 (.cells #[.int .i64 0, .int .i64 0, .int .i64 0, .int .i64 0, .slice none 0 0] 69)
        rw [← hw3]
        have HB3 := Aside0.mk hal
        obtain ⟨xb, hxb⟩ : ∃ xb, xb = w2.heap.size := ⟨_, rfl⟩
        have HXB := Aside0.mk (show w2.heap.size ≤ xb by omega)
        rw [← hxb] at hnb
        rw [← hxb]
        have HNB := Aside0.mk hnb
        clear hw3 hal hnb hxb
        refine hKK.out _ _ HB3.out ?_
        clear hKK KK
        have e0 : w3.cell? ⟨xb, 0, none⟩ = some (.int .i64 0) := cell_blk HNB.out
        have e1 : w3.cell? ⟨xb, 1, none⟩ = some (.int .i64 0) := cell_blk HNB.out
        have e2 : w3.cell? ⟨xb, 2, none⟩ = some (.int .i64 0) := cell_blk HNB.out
        have e3 : w3.cell? ⟨xb, 3, none⟩ = some (.int .i64 0) := cell_blk HNB.out
        have e4 : w3.cell? ⟨xb, 4, none⟩ = some (.slice none 0 0) := cell_blk HNB.out
        have g0 : w3.frozen? ⟨xb, 0, none⟩ = false := frozen_blk HNB.out
        have g1 : w3.frozen? ⟨xb, 1, none⟩ = false := frozen_blk HNB.out
        have g2 : w3.frozen? ⟨xb, 2, none⟩ = false := frozen_blk HNB.out
        have g3 : w3.frozen? ⟨xb, 3, none⟩ = false := frozen_blk HNB.out
        have g4 : w3.frozen? ⟨xb, 4, none⟩ = false := frozen_blk HNB.out
        refine Go.Reg.step_x (by rfl) (fun KK hKK => ?_)
        go_wp2_with fail
        refine hKK.out _ _ ?_
        clear hKK KK
        try simp only [Act.put, List.setIfInBounds_toArray, List.set_cons_succ, List.set_cons_zero]
        refine Go.Reg.lex_nil ?_
        clear e0 e1 e2 e3 e4 g0 g1 g2 g3 g4
        have hkw : wrap64 k = k := by
          have := rd_byte HOB.out 0
          rw [HK.out]
          exact wrap_id _ (by omega) (by omega)
        rw [hkw]
        clear hkw
        obtain ⟨w7, hw7⟩ : ∃ w7, w7 = (((((w3.setCell ⟨xb, 0, none⟩ (.int .i64 k)).setCell ⟨xb, 1, none⟩ (.int .i64 e)).setCell ⟨xb, 2, none⟩ (.int .i64 n)).setCell ⟨xb, 3, none⟩ (.int .i64 lf)).setCell ⟨xb, 4, none⟩ (.slice (some a2) sn (c1 - 12))) := ⟨_, rfl⟩
        have hx7 : w7.heap[xb]? = some (.cells #[.int .i64 k, .int .i64 e, .int .i64 n, .int .i64 lf, .slice (some a2) sn (c1 - 12)] 69 (0, 0)) := by rw [hw7]; exact five_set HNB.out _ _ _ _ _
        have hb7 : Below w2.heap.size w2 w7 := by rw [hw7]; exact five_below HB3.out HXB.out _ _ _ _ _
        rw [← hw7]
        have HMC7 := Aside0.mk (show ∀ x, Below w7.heap.size w7 x → Kd.C (Kd.int .u8) x (some a2) d.length d from fun x hx => HMC.out x (below_steps hb7 hx))
        have HDB := Aside0.mk (show ∀ y ∈ d, 0 ≤ y ∧ y ≤ 255 by rw [HD.out]; exact take_byte HOB.out 12 sn)
        have hg := HG.out.step hb7
        clear HG hb7 hw7 HMC HNB HB3 HLD
        have HG := Aside0.mk hg
        clear hg
        have x0 : w7.cell? ⟨xb, 0, none⟩ = some (.int .i64 k) := cell_blk hx7
        have x1 : w7.cell? ⟨xb, 1, none⟩ = some (.int .i64 e) := cell_blk hx7
        have x2 : w7.cell? ⟨xb, 2, none⟩ = some (.int .i64 n) := cell_blk hx7
        have x3 : w7.cell? ⟨xb, 3, none⟩ = some (.int .i64 lf) := cell_blk hx7
        have x4 : w7.cell? ⟨xb, 4, none⟩ = some (.slice (some a2) sn (c1 - 12)) := cell_blk hx7
        have HX7 := Aside0.mk hx7
        clear hx7
        go_wp2_with fail
        clear x0 x1 x2 x3 x4
        have hp := xput_any k e n lf (some a2) (c1 - 12) d (HMC7.out _ (Below.refl _ _)) (by rw [HDL.out]; omega) HDB.out
        rw [HDL.out] at hp
        obtain ⟨P, hP⟩ : ∃ P, P = putS k e n lf d := ⟨_, rfl⟩
        rw [← hP] at hp
        have HPP := Aside0.mk hP
        have hiff := HIFF.out
        have hraw := HRAW.out (by simp) (by simp)
        rw [hraw, ← HD.out, ← HQ4.out, ← HQ8.out, HSZ.out] at hiff
        have HI2 := Aside0.mk (show okS own = true ↔ P.2 = 0 ∧ P.1 = l by
          rw [hiff, HSE.out, ← HOWN.out, hP]
          constructor
          · rintro ⟨_, _, _, h1, h2⟩; exact ⟨h1, h2⟩
          · rintro ⟨h1, h2⟩; exact ⟨rfl, rfl, by have := HK48.out; omega, h1, h2⟩)
        clear hiff hP hraw
        refine hp.mono ?_
        clear hp
        rintro z w8 ⟨v8, rfl, hr8, b8⟩
        obtain ⟨A8, c8, rfl⟩ := Kd.R_slice hr8
        have hg := HG.out.step b8
        have HX8 := Aside0.mk ((b8.block _ (blk_lt HX7.out)).trans HX7.out)
        have HMC8 := Aside0.mk (show ∀ x, Below w8.heap.size w8 x → Kd.C (Kd.int .u8) x (some a2) d.length d from fun x hx => HMC7.out x (below_steps b8 hx))
        clear HG b8 HX7 HMC7
        have HG := Aside0.mk hg
        clear hg
        obtain ⟨T, hT⟩ : ∃ T, T = strOfNums P.1 := ⟨_, rfl⟩
        obtain ⟨U, hU⟩ : ∃ U, U = strOfNums l := ⟨_, rfl⟩
        have hcv1 : (convert 26 9 (.slice A8 P.1.length c8)).run Try.prog w8 = .ok (.string T) w8 := by rw [hT]; exact strC (row_at hr8)
        have hcv2 : (convert 26 9 (.slice A 64 c)).run Try.prog w8 = .ok (.string U) w8 := by
          rw [hU]
          have := Kd.C_below HC.out (below_up HG.out.below)
          rw [HL.out] at this
          exact strC this
        obtain ⟨e2, he2⟩ : ∃ e2, e2 = P.2 := ⟨_, rfl⟩
        obtain ⟨pl, hpl⟩ : ∃ pl, pl = P.1.length := ⟨_, rfl⟩
        have HTU := Aside0.mk (show T.toList = U.toList → P.1 = l from fun h => str_inj (put_byte HDB.out HPP.out) HBY.out (by rw [← hT, ← hU]; exact h))
        have HTU2 := Aside0.mk (show P.1 = l → T = U from fun h => by rw [hT, hU, h])
        have HI3 := Aside0.mk (show okS own = true ↔ e2 = 0 ∧ P.1 = l by rw [he2]; exact HI2.out)
        rw [← he2, ← hpl]
        rw [← hpl] at hcv1
        clear hT hU he2 hpl hr8
        by_cases he : e2 = 0
        · subst he
          by_cases hpq : P.1 = l
          · have hr5 := Aside0.mk (show r = (⟨k, e, n, lf, d⟩, 0) by rw [HQ.out, if_pos (HI3.out.2 ⟨rfl, hpq⟩), HRAW.out (by simp) (by simp), HD.out])
            obtain rfl := HTU2.out hpq
            clear hpq
            have z0 : w8.cell? ⟨w.heap.size, 0, none⟩ = some (.int .i64 0) := cell_blk HG.out.zero
            have z1 : w8.cell? ⟨w.heap.size, 1, none⟩ = some (.int .i64 0) := cell_blk HG.out.zero
            have z2 : w8.cell? ⟨w.heap.size, 2, none⟩ = some (.int .i64 0) := cell_blk HG.out.zero
            have z3 : w8.cell? ⟨w.heap.size, 3, none⟩ = some (.int .i64 0) := cell_blk HG.out.zero
            have z4 : w8.cell? ⟨w.heap.size, 4, none⟩ = some (.slice none 0 0) := cell_blk HG.out.zero
            have f0 : w8.frozen? ⟨w.heap.size, 0, none⟩ = false := frozen_blk HG.out.zero
            have f1 : w8.frozen? ⟨w.heap.size, 1, none⟩ = false := frozen_blk HG.out.zero
            have f2 : w8.frozen? ⟨w.heap.size, 2, none⟩ = false := frozen_blk HG.out.zero
            have f3 : w8.frozen? ⟨w.heap.size, 3, none⟩ = false := frozen_blk HG.out.zero
            have f4 : w8.frozen? ⟨w.heap.size, 4, none⟩ = false := frozen_blk HG.out.zero
            have x0 : w8.cell? ⟨xb, 0, none⟩ = some (.int .i64 k) := cell_blk HX8.out
            have x1 : w8.cell? ⟨xb, 1, none⟩ = some (.int .i64 e) := cell_blk HX8.out
            have x2 : w8.cell? ⟨xb, 2, none⟩ = some (.int .i64 n) := cell_blk HX8.out
            have x3 : w8.cell? ⟨xb, 3, none⟩ = some (.int .i64 lf) := cell_blk HX8.out
            have x4 : w8.cell? ⟨xb, 4, none⟩ = some (.slice (some a2) sn (c1 - 12)) := cell_blk HX8.out
            go_wp2_with fail
            refine bodyPost_ret (results_ct rfl _ _ w.heap.size 69 #[.int .i64 k, .int .i64 e, .int .i64 n, .int .i64 lf, .slice (some a2) sn (c1 - 12)] (0, 0) _ rfl (five_set HG.out.zero _ _ _ _ _) Try.underlying69 rfl (by kernel_rfl)) rfl ?_
            refine ⟨some a2, c1 - 12, by rw [hr5.out, ← HDL.out]; rfl, by rw [hr5.out]; show d.length ≤ c1 - 12; rw [HDL.out]; omega, fun y hy => ?_, five_below HG.out.below (Nat.le_refl _) _ _ _ _ _⟩
            rw [hr5.out]
            exact Kd.C_below (C_but (HMC8.out _ (Below.refl _ _)) HG.out.zero not8_5 (five_but _ _ _ _ _)) hy
          · have hne : (!T.toList == U.toList) = true := by simpa using (fun h => hpq (HTU.out h))
            have HR5 := Aside0.mk (HERR.out (fun h => hpq (HI3.out.1 h).2))
            clear hpq
            have z0 : w8.cell? ⟨w.heap.size, 0, none⟩ = some (.int .i64 0) := cell_blk HG.out.zero
            have z1 : w8.cell? ⟨w.heap.size, 1, none⟩ = some (.int .i64 0) := cell_blk HG.out.zero
            have z2 : w8.cell? ⟨w.heap.size, 2, none⟩ = some (.int .i64 0) := cell_blk HG.out.zero
            have z3 : w8.cell? ⟨w.heap.size, 3, none⟩ = some (.int .i64 0) := cell_blk HG.out.zero
            have z4 : w8.cell? ⟨w.heap.size, 4, none⟩ = some (.slice none 0 0) := cell_blk HG.out.zero
            have f0 : w8.frozen? ⟨w.heap.size, 0, none⟩ = false := frozen_blk HG.out.zero
            have f1 : w8.frozen? ⟨w.heap.size, 1, none⟩ = false := frozen_blk HG.out.zero
            have f2 : w8.frozen? ⟨w.heap.size, 2, none⟩ = false := frozen_blk HG.out.zero
            have f3 : w8.frozen? ⟨w.heap.size, 3, none⟩ = false := frozen_blk HG.out.zero
            have f4 : w8.frozen? ⟨w.heap.size, 4, none⟩ = false := frozen_blk HG.out.zero
            go_wp2_with fail
            refine bodyPost_ret (results_ct rfl _ _ w.heap.size 69 #[.int .i64 0, .int .i64 0, .int .i64 0, .int .i64 0, .slice none 0 0] (0, 0) _ rfl (five_set HG.out.zero _ _ _ _ _) Try.underlying69 rfl (by kernel_rfl)) rfl ?_
            exact ⟨none, 0, by rw [HR5.out]; rfl, by rw [HR5.out]; exact Nat.le_refl _, fun x hx => by rw [HR5.out]; exact nilC x, five_below HG.out.below (Nat.le_refl _) _ _ _ _ _⟩
        · have he' : (e2 != 0) = true := by simpa using he
          have HR5 := Aside0.mk (HERR.out (fun h => he (HI3.out.1 h).1))
          have z0 : w8.cell? ⟨w.heap.size, 0, none⟩ = some (.int .i64 0) := cell_blk HG.out.zero
          have z1 : w8.cell? ⟨w.heap.size, 1, none⟩ = some (.int .i64 0) := cell_blk HG.out.zero
          have z2 : w8.cell? ⟨w.heap.size, 2, none⟩ = some (.int .i64 0) := cell_blk HG.out.zero
          have z3 : w8.cell? ⟨w.heap.size, 3, none⟩ = some (.int .i64 0) := cell_blk HG.out.zero
          have z4 : w8.cell? ⟨w.heap.size, 4, none⟩ = some (.slice none 0 0) := cell_blk HG.out.zero
          have f0 : w8.frozen? ⟨w.heap.size, 0, none⟩ = false := frozen_blk HG.out.zero
          have f1 : w8.frozen? ⟨w.heap.size, 1, none⟩ = false := frozen_blk HG.out.zero
          have f2 : w8.frozen? ⟨w.heap.size, 2, none⟩ = false := frozen_blk HG.out.zero
          have f3 : w8.frozen? ⟨w.heap.size, 3, none⟩ = false := frozen_blk HG.out.zero
          have f4 : w8.frozen? ⟨w.heap.size, 4, none⟩ = false := frozen_blk HG.out.zero
          go_wp2_with fail
          refine bodyPost_ret (results_ct rfl _ _ w.heap.size 69 #[.int .i64 0, .int .i64 0, .int .i64 0, .int .i64 0, .slice none 0 0] (0, 0) _ rfl (five_set HG.out.zero _ _ _ _ _) Try.underlying69 rfl (by kernel_rfl)) rfl ?_
          exact ⟨none, 0, by rw [HR5.out]; rfl, by rw [HR5.out]; exact Nat.le_refl _, fun x hx => by rw [HR5.out]; exact nilC x, five_below HG.out.below (Nat.le_refl _) _ _ _ _ _⟩
      · have hd1 : decide ((48 : Int) < sn) = true := decide_eq_true (by omega)
        have HR5 := Aside0.mk (HERR.out (fun h => hk48 (by have := (HIFF.out.1 h).2.2.1; rw [HSZ.out] at this; omega)))
        have z0 : w2.cell? ⟨w.heap.size, 0, none⟩ = some (.int .i64 0) := cell_blk HG.out.zero
        have z1 : w2.cell? ⟨w.heap.size, 1, none⟩ = some (.int .i64 0) := cell_blk HG.out.zero
        have z2 : w2.cell? ⟨w.heap.size, 2, none⟩ = some (.int .i64 0) := cell_blk HG.out.zero
        have z3 : w2.cell? ⟨w.heap.size, 3, none⟩ = some (.int .i64 0) := cell_blk HG.out.zero
        have z4 : w2.cell? ⟨w.heap.size, 4, none⟩ = some (.slice none 0 0) := cell_blk HG.out.zero
        have f0 : w2.frozen? ⟨w.heap.size, 0, none⟩ = false := frozen_blk HG.out.zero
        have f1 : w2.frozen? ⟨w.heap.size, 1, none⟩ = false := frozen_blk HG.out.zero
        have f2 : w2.frozen? ⟨w.heap.size, 2, none⟩ = false := frozen_blk HG.out.zero
        have f3 : w2.frozen? ⟨w.heap.size, 3, none⟩ = false := frozen_blk HG.out.zero
        have f4 : w2.frozen? ⟨w.heap.size, 4, none⟩ = false := frozen_blk HG.out.zero
        go_wp2_with fail
        refine bodyPost_ret (results_ct rfl _ _ w.heap.size 69 #[.int .i64 0, .int .i64 0, .int .i64 0, .int .i64 0, .slice none 0 0] (0, 0) _ rfl (five_set HG.out.zero _ _ _ _ _) Try.underlying69 rfl (by kernel_rfl)) rfl ?_
        exact ⟨none, 0, by rw [HR5.out]; rfl, by rw [HR5.out]; exact Nat.le_refl _, fun x hx => by rw [HR5.out]; exact nilC x, five_below HG.out.below (Nat.le_refl _) _ _ _ _ _⟩
    · have h8b : (q8 != 0) = true := by simpa using h8
      have HR5 := Aside0.mk (HERR.out (fun h => h8 (by rw [HQ8.out]; exact (HIFF.out.1 h).2.1)))
      have z0 : w2.cell? ⟨w.heap.size, 0, none⟩ = some (.int .i64 0) := cell_blk HG.out.zero
      have z1 : w2.cell? ⟨w.heap.size, 1, none⟩ = some (.int .i64 0) := cell_blk HG.out.zero
      have z2 : w2.cell? ⟨w.heap.size, 2, none⟩ = some (.int .i64 0) := cell_blk HG.out.zero
      have z3 : w2.cell? ⟨w.heap.size, 3, none⟩ = some (.int .i64 0) := cell_blk HG.out.zero
      have z4 : w2.cell? ⟨w.heap.size, 4, none⟩ = some (.slice none 0 0) := cell_blk HG.out.zero
      have f0 : w2.frozen? ⟨w.heap.size, 0, none⟩ = false := frozen_blk HG.out.zero
      have f1 : w2.frozen? ⟨w.heap.size, 1, none⟩ = false := frozen_blk HG.out.zero
      have f2 : w2.frozen? ⟨w.heap.size, 2, none⟩ = false := frozen_blk HG.out.zero
      have f3 : w2.frozen? ⟨w.heap.size, 3, none⟩ = false := frozen_blk HG.out.zero
      have f4 : w2.frozen? ⟨w.heap.size, 4, none⟩ = false := frozen_blk HG.out.zero
      go_wp2_with fail
      refine bodyPost_ret (results_ct rfl _ _ w.heap.size 69 #[.int .i64 0, .int .i64 0, .int .i64 0, .int .i64 0, .slice none 0 0] (0, 0) _ rfl (five_set HG.out.zero _ _ _ _ _) Try.underlying69 rfl (by kernel_rfl)) rfl ?_
      exact ⟨none, 0, by rw [HR5.out]; rfl, by rw [HR5.out]; exact Nat.le_refl _, fun x hx => by rw [HR5.out]; exact nilC x, five_below HG.out.below (Nat.le_refl _) _ _ _ _ _⟩
  · have h4b : (q4 != 0) = true := by simpa using h4
    have HR5 := Aside0.mk (HERR.out (fun h => h4 (by rw [HQ4.out]; exact (HIFF.out.1 h).1)))
    have z0 : w2.cell? ⟨w.heap.size, 0, none⟩ = some (.int .i64 0) := cell_blk HG.out.zero
    have z1 : w2.cell? ⟨w.heap.size, 1, none⟩ = some (.int .i64 0) := cell_blk HG.out.zero
    have z2 : w2.cell? ⟨w.heap.size, 2, none⟩ = some (.int .i64 0) := cell_blk HG.out.zero
    have z3 : w2.cell? ⟨w.heap.size, 3, none⟩ = some (.int .i64 0) := cell_blk HG.out.zero
    have z4 : w2.cell? ⟨w.heap.size, 4, none⟩ = some (.slice none 0 0) := cell_blk HG.out.zero
    have f0 : w2.frozen? ⟨w.heap.size, 0, none⟩ = false := frozen_blk HG.out.zero
    have f1 : w2.frozen? ⟨w.heap.size, 1, none⟩ = false := frozen_blk HG.out.zero
    have f2 : w2.frozen? ⟨w.heap.size, 2, none⟩ = false := frozen_blk HG.out.zero
    have f3 : w2.frozen? ⟨w.heap.size, 3, none⟩ = false := frozen_blk HG.out.zero
    have f4 : w2.frozen? ⟨w.heap.size, 4, none⟩ = false := frozen_blk HG.out.zero
    go_wp2_with fail
    refine bodyPost_ret (results_ct rfl _ _ w.heap.size 69 #[.int .i64 0, .int .i64 0, .int .i64 0, .int .i64 0, .slice none 0 0] (0, 0) _ rfl (five_set HG.out.zero _ _ _ _ _) Try.underlying69 rfl (by kernel_rfl)) rfl ?_
    exact ⟨none, 0, by rw [HR5.out]; rfl, by rw [HR5.out]; exact Nat.le_refl _, fun x hx => by rw [HR5.out]; exact nilC x, five_below HG.out.below (Nat.le_refl _) _ _ _ _ _⟩
theorem xget_any {w : World} (A : Option Addr) (c : Nat) (l : List Int) (hC : Kd.C (Kd.int .u8) w A l.length l) (hb : ∀ y ∈ l, 0 ≤ y ∧ y ≤ 255) (hc : l.length ≤ c) (hl : l.length ≤ 200000) :
    Calls Try.prog 42 #[.slice A l.length c] w fun e w' => ∃ A' c', e = .returned (.tuple #[.agg #[.int .i64 (getS l).1.k, .int .i64 (getS l).1.e, .int .i64 (getS l).1.n, .int .i64 (getS l).1.l, .slice A' (getS l).1.d.length c'], .int .i64 (getS l).2]) ∧ (getS l).1.d.length ≤ c' ∧ (∀ x, Below w'.heap.size w' x → Kd.C (Kd.int .u8) x A' (getS l).1.d.length (getS l).1.d) ∧ Below w.heap.size w w' := by
  by_cases h : l.length ≠ 64 ∨ (openP l).2 ≠ 0
  · exact xget_no A c l hC hb hc hl h
  · have h1 : l.length = 64 := Classical.byContradiction (fun e => h (Or.inl e))
    have h2 : (openP l).2 = 0 := Classical.byContradiction (fun e => h (Or.inr e))
    exact xget_yes A c l hC hb hc h1 h2
end Sect
end Go.Proofs.Ytopfjmeejpamjaa
end
