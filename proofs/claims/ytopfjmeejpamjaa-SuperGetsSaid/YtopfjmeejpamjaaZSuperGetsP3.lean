/- Part 4 of the proof of SuperGets: lemmas alone. -/
import Derived.Test.YtopfjmeejpamjaaZSuperGetsP2
import Derived.WalkKit
import Derived.KernelRfl
import Derived.RowKit3
import Derived.Deep.Slices
import Derived.Below
import Derived.Lib.Hide
import Derived.OwnWalk
import Derived.Deep.LoopGhost
import Derived.Deep.QuietTactic
import Derived.BigQuiet
import Derived.WideLaws
import Derived.Great.BuildSlice
import Derived.Outline
import Derived.Deep.DeepCutAuto
import Derived.WalkSpells
import Derived.RegionTactic
import Derived.BigRegion
import Derived.WalkLawsBesides
import Derived.IntWalk
import Derived.Lib.AppendZerosOnto
import Derived.OrdersIn
import Derived.RangeFuncCalls
import Derived.Deep.Cut
import Derived.Deep.CutRange
section
namespace Go.Proofs.Ytopfjmeejpamjaa.PSectorGets
open Go.RowKit Go.Proofs.YtopfjmeejpamjaaW.PrintWords Go.Proofs.YtopfjmeejpamjaaW.PrintLast Go.Proofs.YtopfjmeejpamjaaW.PrintMore
attribute [local go_sem] max2_int min2_int max_two min_two max_three min_three max_four min_four
set_option linter.unusedVariables false
set_option linter.unusedSimpArgs false
set_option linter.ambiguousOpen false
open Go.Proofs.Ytopfjmeejpamjaa.PSuper
def sector_within.f (a0 : Int) (a1 : Int) (a2 : Int) : Option (Bool) := if a0 ≥ a1 then (some (decide (a0 < a2))) else (some false)
set_option maxHeartbeats 8000000 in
set_option maxRecDepth 100000 in
theorem sector_within.calls (a0 : Int) (a1 : Int) (a2 : Int) (r : Bool) (w : World) (h : sector_within.f a0 a1 a2 = some r) :
    Calls Try.prog 87 #[.int .i64 a0, .int .i64 a1, .int .i64 a2] w fun e w' => e = .returned (.bool r) ∧ Drawn0 w w' := by
  have H : (if a0 ≥ a1 then (some (decide (a0 < a2))) else (some false)) = some r := h
  clear h
  by_cases c4 : a0 ≥ a1
  · rw [if_pos c4] at H
    have c4b0 : decide (a1 ≤ a0) = true := decide_eq_true c4
    clear c4
    obtain rfl := Option.some.inj H
    go_enter Try.func87, Try.ntmps87
    go_wp2
    go_ret
    exact ⟨by first | rfl | (simp; done) | (simp [*]; done), by repeat (first | exact Drawn0.refl _ | apply Drawn0.step)⟩
  · rw [if_neg c4] at H
    have c4b0 : decide (a1 ≤ a0) = false := decide_eq_false c4
    clear c4
    obtain rfl := Option.some.inj H
    go_enter Try.func87, Try.ntmps87
    go_wp2
    go_ret
    exact ⟨by first | rfl | (simp; done) | (simp [*]; done), by repeat (first | exact Drawn0.refl _ | apply Drawn0.step)⟩
def sector_may.f (a0_0 : Int) (a0_1 : Int) (a0_2 : Int) (a0_3 : Int) (l0_4 : List Int) : Option (Bool) := (sector_within.f a0_0 1 256).bind fun t106 => (if t106 = true then ((sector_within.f a0_3 0 65536).bind fun t107 => (if t107 = true then ((sector_within.f a0_1 0 2147483648).bind fun t108 => (if t108 = true then ((sector_within.f a0_2 0 2147483648).bind fun t109 => (if t109 = true then (some (decide ((l0_4.length : Int) ≤ 48))) else (some false))) else (some false))) else (some false))) else (some false))
set_option maxHeartbeats 8000000 in
set_option maxRecDepth 100000 in
theorem sector_may.calls (a0_0 : Int) (a0_1 : Int) (a0_2 : Int) (a0_3 : Int) (A0_4 : Option Addr) (c0_4 : Nat) (l0_4 : List Int) (r : Bool) (w : World) (hr0_4 : Kd.C (Kd.int .u8) w A0_4 l0_4.length l0_4) (hc0_4 : l0_4.length ≤ c0_4) (h : sector_may.f a0_0 a0_1 a0_2 a0_3 l0_4 = some r) :
    Calls Try.prog 67 #[.agg #[.int .i64 a0_0, .int .i64 a0_1, .int .i64 a0_2, .int .i64 a0_3, .slice A0_4 l0_4.length c0_4]] w fun e w' => e = .returned (.bool r) ∧ Below w.heap.size w w' := by
  have hu69 := Try.underlying69
  have HR0_4 := Aside0.mk hr0_4
  have HC0_4 := Aside0.mk hc0_4
  clear hr0_4 hc0_4
  have HB := Aside0.mk (Below.refl w.heap.size w)
  have H : ((sector_within.f a0_0 1 256).bind fun t106 => (if t106 = true then ((sector_within.f a0_3 0 65536).bind fun t107 => (if t107 = true then ((sector_within.f a0_1 0 2147483648).bind fun t108 => (if t108 = true then ((sector_within.f a0_2 0 2147483648).bind fun t109 => (if t109 = true then (some (decide ((l0_4.length : Int) ≤ 48))) else (some false))) else (some false))) else (some false))) else (some false))) = some r := h
  clear h
  replace H := Option.bind_eq_some_iff.mp H
  obtain ⟨t106, A20, H⟩ := H
  replace H : (if t106 = true then ((sector_within.f a0_3 0 65536).bind fun t107 => (if t107 = true then ((sector_within.f a0_1 0 2147483648).bind fun t108 => (if t108 = true then ((sector_within.f a0_2 0 2147483648).bind fun t109 => (if t109 = true then (some (decide ((l0_4.length : Int) ≤ 48))) else (some false))) else (some false))) else (some false))) else (some false)) = some r := H
  have A2 := Aside0.mk A20
  clear A20
  by_cases c3 : t106 = true
  · subst c3
    have H1 : ((sector_within.f a0_3 0 65536).bind fun t107 => (if t107 = true then ((sector_within.f a0_1 0 2147483648).bind fun t108 => (if t108 = true then ((sector_within.f a0_2 0 2147483648).bind fun t109 => (if t109 = true then (some (decide ((l0_4.length : Int) ≤ 48))) else (some false))) else (some false))) else (some false))) = some r := by rw [if_pos rfl] at H; exact H
    clear H
    have H := H1
    clear H1
    replace H := Option.bind_eq_some_iff.mp H
    obtain ⟨t107, A40, H⟩ := H
    replace H : (if t107 = true then ((sector_within.f a0_1 0 2147483648).bind fun t108 => (if t108 = true then ((sector_within.f a0_2 0 2147483648).bind fun t109 => (if t109 = true then (some (decide ((l0_4.length : Int) ≤ 48))) else (some false))) else (some false))) else (some false)) = some r := H
    have A4 := Aside0.mk A40
    clear A40
    by_cases c5 : t107 = true
    · subst c5
      have H1 : ((sector_within.f a0_1 0 2147483648).bind fun t108 => (if t108 = true then ((sector_within.f a0_2 0 2147483648).bind fun t109 => (if t109 = true then (some (decide ((l0_4.length : Int) ≤ 48))) else (some false))) else (some false))) = some r := by rw [if_pos rfl] at H; exact H
      clear H
      have H := H1
      clear H1
      replace H := Option.bind_eq_some_iff.mp H
      obtain ⟨t108, A60, H⟩ := H
      replace H : (if t108 = true then ((sector_within.f a0_2 0 2147483648).bind fun t109 => (if t109 = true then (some (decide ((l0_4.length : Int) ≤ 48))) else (some false))) else (some false)) = some r := H
      have A6 := Aside0.mk A60
      clear A60
      by_cases c7 : t108 = true
      · subst c7
        have H1 : ((sector_within.f a0_2 0 2147483648).bind fun t109 => (if t109 = true then (some (decide ((l0_4.length : Int) ≤ 48))) else (some false))) = some r := by rw [if_pos rfl] at H; exact H
        clear H
        have H := H1
        clear H1
        replace H := Option.bind_eq_some_iff.mp H
        obtain ⟨t109, A80, H⟩ := H
        replace H : (if t109 = true then (some (decide ((l0_4.length : Int) ≤ 48))) else (some false)) = some r := H
        have A8 := Aside0.mk A80
        clear A80
        by_cases c9 : t109 = true
        · subst c9
          have H1 : (some (decide ((l0_4.length : Int) ≤ 48))) = some r := by rw [if_pos rfl] at H; exact H
          clear H
          have H := H1
          clear H1
          obtain rfl := Option.some.inj H
          go_enter Try.func67, Try.ntmps67
          go_wp2_with (first | ((with_reducible refine gate_dst (N := 1) rfl ?_); (try (refine gate_guard (by rfl) ?_; dsimp only)); refine box_event ?hg (N := 1) ?hd (cs := #[.int .i64 a0_0, .int .i64 a0_1, .int .i64 a0_2, .int .i64 a0_3, .slice A0_4 l0_4.length c0_4]) (t := 69) ?hr ?_; (case hd => rfl); (case hg => rfl); (case hr => first | (go_simp; done) | (go_simp; rfl)); intro gb105 hg w10 hbox hb; have n0_ := Aside0.mk (below_step (by repeat (first | (with_reducible first | exact HB.out | apply below_alloc | apply pw_below_drewN | apply below_drew1) | exact HB.out)) hb); have n1_ := Aside0.mk (hbox); have n2_ := Aside0.mk ((by rw [hg]; exact (below_size (by repeat (first | (with_reducible first | exact HB.out | apply below_alloc | apply pw_below_drewN | apply below_drew1) | exact HB.out))) : w.heap.size ≤ gb105)); have n3_ := Aside0.mk ((by rw [hg]; exact (below_size (by repeat (first | (with_reducible first | exact HB.out | apply below_alloc | apply pw_below_drewN | apply below_drew1) | exact HB.out))) : w.heap.size ≤ gb105)); clear HB; have HB := n0_; have BK105 := n1_; have GW105 := n2_; have GE105 := n3_; clear n0_ n1_ n2_ n3_; clear hb hbox hg; have hcz11_0 : w10.cell? ⟨gb105, 0, none⟩ = some (.int .i64 a0_0) := (blk_cell BK105.out 0).trans rfl; have hcz11_1 : w10.cell? ⟨gb105, 1, none⟩ = some (.int .i64 a0_1) := (blk_cell BK105.out 1).trans rfl; have hcz11_2 : w10.cell? ⟨gb105, 2, none⟩ = some (.int .i64 a0_2) := (blk_cell BK105.out 2).trans rfl; have hcz11_3 : w10.cell? ⟨gb105, 3, none⟩ = some (.int .i64 a0_3) := (blk_cell BK105.out 3).trans rfl; have hcz11_4 : w10.cell? ⟨gb105, 4, none⟩ = some (.slice A0_4 l0_4.length c0_4) := (blk_cell BK105.out 4).trans rfl; have hfz11_0 := blk_frozen BK105.out 0; have hfz11_1 := blk_frozen BK105.out 1; have hfz11_2 := blk_frozen BK105.out 2; have hfz11_3 := blk_frozen BK105.out 3; have hfz11_4 := blk_frozen BK105.out 4) | ((with_reducible refine gate_callee (f := 87) rfl ?_); refine goesL_ (some 5) rfl rfl Try.func87 (by kernel_rfl) rfl #[.int .i64 a0_0, .int .i64 1, .int .i64 256] rfl (by (try simp only [List.map_toArray, List.map_cons, List.map_nil]); first | done | rfl | (simp only [List.length_drop, List.length_take]; rfl)) ?_; (with_reducible refine (sector_within.calls a0_0 1 256 true _ A2.out).mono ?_); rintro e w' ⟨rfl, ⟨nd, rfl⟩⟩; refine ⟨_, rfl, ?_⟩) | (go_at_call 87; (with_reducible refine (sector_within.calls a0_3 0 65536 true _ A4.out).mono ?_); rintro e w' ⟨rfl, ⟨nd, rfl⟩⟩) | (go_at_call 87; (with_reducible refine (sector_within.calls a0_1 0 2147483648 true _ A6.out).mono ?_); rintro e w' ⟨rfl, ⟨nd, rfl⟩⟩) | (go_at_call 87; (with_reducible refine (sector_within.calls a0_2 0 2147483648 true _ A8.out).mono ?_); rintro e w' ⟨rfl, ⟨nd, rfl⟩⟩))
          go_ret
          exact ⟨by first | rfl | (simp [errW_none, errW_some] <;> rfl) | (simp [*, errW_none, errW_some] <;> rfl), by repeat (first | (with_reducible first | exact HB.out | apply below_alloc | apply pw_below_drewN | apply below_drew1 | refine below_set ?_ GE105.out) | exact HB.out)⟩
        · replace c9 := Bool.eq_false_iff.mpr c9
          subst c9
          have H1 : (some false) = some r := by rw [if_neg (show ¬ (false = true) by decide)] at H; exact H
          clear H
          have H := H1
          clear H1
          obtain rfl := Option.some.inj H
          go_enter Try.func67, Try.ntmps67
          go_wp2_with (first | ((with_reducible refine gate_dst (N := 1) rfl ?_); (try (refine gate_guard (by rfl) ?_; dsimp only)); refine box_event ?hg (N := 1) ?hd (cs := #[.int .i64 a0_0, .int .i64 a0_1, .int .i64 a0_2, .int .i64 a0_3, .slice A0_4 l0_4.length c0_4]) (t := 69) ?hr ?_; (case hd => rfl); (case hg => rfl); (case hr => first | (go_simp; done) | (go_simp; rfl)); intro gb105 hg w12 hbox hb; have n0_ := Aside0.mk (below_step (by repeat (first | (with_reducible first | exact HB.out | apply below_alloc | apply pw_below_drewN | apply below_drew1) | exact HB.out)) hb); have n1_ := Aside0.mk (hbox); have n2_ := Aside0.mk ((by rw [hg]; exact (below_size (by repeat (first | (with_reducible first | exact HB.out | apply below_alloc | apply pw_below_drewN | apply below_drew1) | exact HB.out))) : w.heap.size ≤ gb105)); have n3_ := Aside0.mk ((by rw [hg]; exact (below_size (by repeat (first | (with_reducible first | exact HB.out | apply below_alloc | apply pw_below_drewN | apply below_drew1) | exact HB.out))) : w.heap.size ≤ gb105)); clear HB; have HB := n0_; have BK105 := n1_; have GW105 := n2_; have GE105 := n3_; clear n0_ n1_ n2_ n3_; clear hb hbox hg; have hcz13_0 : w12.cell? ⟨gb105, 0, none⟩ = some (.int .i64 a0_0) := (blk_cell BK105.out 0).trans rfl; have hcz13_1 : w12.cell? ⟨gb105, 1, none⟩ = some (.int .i64 a0_1) := (blk_cell BK105.out 1).trans rfl; have hcz13_2 : w12.cell? ⟨gb105, 2, none⟩ = some (.int .i64 a0_2) := (blk_cell BK105.out 2).trans rfl; have hcz13_3 : w12.cell? ⟨gb105, 3, none⟩ = some (.int .i64 a0_3) := (blk_cell BK105.out 3).trans rfl; have hcz13_4 : w12.cell? ⟨gb105, 4, none⟩ = some (.slice A0_4 l0_4.length c0_4) := (blk_cell BK105.out 4).trans rfl; have hfz13_0 := blk_frozen BK105.out 0; have hfz13_1 := blk_frozen BK105.out 1; have hfz13_2 := blk_frozen BK105.out 2; have hfz13_3 := blk_frozen BK105.out 3; have hfz13_4 := blk_frozen BK105.out 4) | ((with_reducible refine gate_callee (f := 87) rfl ?_); refine goesL_ (some 5) rfl rfl Try.func87 (by kernel_rfl) rfl #[.int .i64 a0_0, .int .i64 1, .int .i64 256] rfl (by (try simp only [List.map_toArray, List.map_cons, List.map_nil]); first | done | rfl | (simp only [List.length_drop, List.length_take]; rfl)) ?_; (with_reducible refine (sector_within.calls a0_0 1 256 true _ A2.out).mono ?_); rintro e w' ⟨rfl, ⟨nd, rfl⟩⟩; refine ⟨_, rfl, ?_⟩) | (go_at_call 87; (with_reducible refine (sector_within.calls a0_3 0 65536 true _ A4.out).mono ?_); rintro e w' ⟨rfl, ⟨nd, rfl⟩⟩) | (go_at_call 87; (with_reducible refine (sector_within.calls a0_1 0 2147483648 true _ A6.out).mono ?_); rintro e w' ⟨rfl, ⟨nd, rfl⟩⟩) | (go_at_call 87; (with_reducible refine (sector_within.calls a0_2 0 2147483648 false _ A8.out).mono ?_); rintro e w' ⟨rfl, ⟨nd, rfl⟩⟩))
          go_ret
          exact ⟨by first | rfl | (simp [errW_none, errW_some] <;> rfl) | (simp [*, errW_none, errW_some] <;> rfl), by repeat (first | (with_reducible first | exact HB.out | apply below_alloc | apply pw_below_drewN | apply below_drew1 | refine below_set ?_ GE105.out) | exact HB.out)⟩
      · replace c7 := Bool.eq_false_iff.mpr c7
        subst c7
        have H1 : (some false) = some r := by rw [if_neg (show ¬ (false = true) by decide)] at H; exact H
        clear H
        have H := H1
        clear H1
        obtain rfl := Option.some.inj H
        go_enter Try.func67, Try.ntmps67
        go_wp2_with (first | ((with_reducible refine gate_dst (N := 1) rfl ?_); (try (refine gate_guard (by rfl) ?_; dsimp only)); refine box_event ?hg (N := 1) ?hd (cs := #[.int .i64 a0_0, .int .i64 a0_1, .int .i64 a0_2, .int .i64 a0_3, .slice A0_4 l0_4.length c0_4]) (t := 69) ?hr ?_; (case hd => rfl); (case hg => rfl); (case hr => first | (go_simp; done) | (go_simp; rfl)); intro gb105 hg w14 hbox hb; have n0_ := Aside0.mk (below_step (by repeat (first | (with_reducible first | exact HB.out | apply below_alloc | apply pw_below_drewN | apply below_drew1) | exact HB.out)) hb); have n1_ := Aside0.mk (hbox); have n2_ := Aside0.mk ((by rw [hg]; exact (below_size (by repeat (first | (with_reducible first | exact HB.out | apply below_alloc | apply pw_below_drewN | apply below_drew1) | exact HB.out))) : w.heap.size ≤ gb105)); have n3_ := Aside0.mk ((by rw [hg]; exact (below_size (by repeat (first | (with_reducible first | exact HB.out | apply below_alloc | apply pw_below_drewN | apply below_drew1) | exact HB.out))) : w.heap.size ≤ gb105)); clear HB; have HB := n0_; have BK105 := n1_; have GW105 := n2_; have GE105 := n3_; clear n0_ n1_ n2_ n3_; clear hb hbox hg; have hcz15_0 : w14.cell? ⟨gb105, 0, none⟩ = some (.int .i64 a0_0) := (blk_cell BK105.out 0).trans rfl; have hcz15_1 : w14.cell? ⟨gb105, 1, none⟩ = some (.int .i64 a0_1) := (blk_cell BK105.out 1).trans rfl; have hcz15_2 : w14.cell? ⟨gb105, 2, none⟩ = some (.int .i64 a0_2) := (blk_cell BK105.out 2).trans rfl; have hcz15_3 : w14.cell? ⟨gb105, 3, none⟩ = some (.int .i64 a0_3) := (blk_cell BK105.out 3).trans rfl; have hcz15_4 : w14.cell? ⟨gb105, 4, none⟩ = some (.slice A0_4 l0_4.length c0_4) := (blk_cell BK105.out 4).trans rfl; have hfz15_0 := blk_frozen BK105.out 0; have hfz15_1 := blk_frozen BK105.out 1; have hfz15_2 := blk_frozen BK105.out 2; have hfz15_3 := blk_frozen BK105.out 3; have hfz15_4 := blk_frozen BK105.out 4) | ((with_reducible refine gate_callee (f := 87) rfl ?_); refine goesL_ (some 5) rfl rfl Try.func87 (by kernel_rfl) rfl #[.int .i64 a0_0, .int .i64 1, .int .i64 256] rfl (by (try simp only [List.map_toArray, List.map_cons, List.map_nil]); first | done | rfl | (simp only [List.length_drop, List.length_take]; rfl)) ?_; (with_reducible refine (sector_within.calls a0_0 1 256 true _ A2.out).mono ?_); rintro e w' ⟨rfl, ⟨nd, rfl⟩⟩; refine ⟨_, rfl, ?_⟩) | (go_at_call 87; (with_reducible refine (sector_within.calls a0_3 0 65536 true _ A4.out).mono ?_); rintro e w' ⟨rfl, ⟨nd, rfl⟩⟩) | (go_at_call 87; (with_reducible refine (sector_within.calls a0_1 0 2147483648 false _ A6.out).mono ?_); rintro e w' ⟨rfl, ⟨nd, rfl⟩⟩))
        go_ret
        exact ⟨by first | rfl | (simp [errW_none, errW_some] <;> rfl) | (simp [*, errW_none, errW_some] <;> rfl), by repeat (first | (with_reducible first | exact HB.out | apply below_alloc | apply pw_below_drewN | apply below_drew1 | refine below_set ?_ GE105.out) | exact HB.out)⟩
    · replace c5 := Bool.eq_false_iff.mpr c5
      subst c5
      have H1 : (some false) = some r := by rw [if_neg (show ¬ (false = true) by decide)] at H; exact H
      clear H
      have H := H1
      clear H1
      obtain rfl := Option.some.inj H
      go_enter Try.func67, Try.ntmps67
      go_wp2_with (first | ((with_reducible refine gate_dst (N := 1) rfl ?_); (try (refine gate_guard (by rfl) ?_; dsimp only)); refine box_event ?hg (N := 1) ?hd (cs := #[.int .i64 a0_0, .int .i64 a0_1, .int .i64 a0_2, .int .i64 a0_3, .slice A0_4 l0_4.length c0_4]) (t := 69) ?hr ?_; (case hd => rfl); (case hg => rfl); (case hr => first | (go_simp; done) | (go_simp; rfl)); intro gb105 hg w16 hbox hb; have n0_ := Aside0.mk (below_step (by repeat (first | (with_reducible first | exact HB.out | apply below_alloc | apply pw_below_drewN | apply below_drew1) | exact HB.out)) hb); have n1_ := Aside0.mk (hbox); have n2_ := Aside0.mk ((by rw [hg]; exact (below_size (by repeat (first | (with_reducible first | exact HB.out | apply below_alloc | apply pw_below_drewN | apply below_drew1) | exact HB.out))) : w.heap.size ≤ gb105)); have n3_ := Aside0.mk ((by rw [hg]; exact (below_size (by repeat (first | (with_reducible first | exact HB.out | apply below_alloc | apply pw_below_drewN | apply below_drew1) | exact HB.out))) : w.heap.size ≤ gb105)); clear HB; have HB := n0_; have BK105 := n1_; have GW105 := n2_; have GE105 := n3_; clear n0_ n1_ n2_ n3_; clear hb hbox hg; have hcz17_0 : w16.cell? ⟨gb105, 0, none⟩ = some (.int .i64 a0_0) := (blk_cell BK105.out 0).trans rfl; have hcz17_1 : w16.cell? ⟨gb105, 1, none⟩ = some (.int .i64 a0_1) := (blk_cell BK105.out 1).trans rfl; have hcz17_2 : w16.cell? ⟨gb105, 2, none⟩ = some (.int .i64 a0_2) := (blk_cell BK105.out 2).trans rfl; have hcz17_3 : w16.cell? ⟨gb105, 3, none⟩ = some (.int .i64 a0_3) := (blk_cell BK105.out 3).trans rfl; have hcz17_4 : w16.cell? ⟨gb105, 4, none⟩ = some (.slice A0_4 l0_4.length c0_4) := (blk_cell BK105.out 4).trans rfl; have hfz17_0 := blk_frozen BK105.out 0; have hfz17_1 := blk_frozen BK105.out 1; have hfz17_2 := blk_frozen BK105.out 2; have hfz17_3 := blk_frozen BK105.out 3; have hfz17_4 := blk_frozen BK105.out 4) | ((with_reducible refine gate_callee (f := 87) rfl ?_); refine goesL_ (some 5) rfl rfl Try.func87 (by kernel_rfl) rfl #[.int .i64 a0_0, .int .i64 1, .int .i64 256] rfl (by (try simp only [List.map_toArray, List.map_cons, List.map_nil]); first | done | rfl | (simp only [List.length_drop, List.length_take]; rfl)) ?_; (with_reducible refine (sector_within.calls a0_0 1 256 true _ A2.out).mono ?_); rintro e w' ⟨rfl, ⟨nd, rfl⟩⟩; refine ⟨_, rfl, ?_⟩) | (go_at_call 87; (with_reducible refine (sector_within.calls a0_3 0 65536 false _ A4.out).mono ?_); rintro e w' ⟨rfl, ⟨nd, rfl⟩⟩))
      go_ret
      exact ⟨by first | rfl | (simp [errW_none, errW_some] <;> rfl) | (simp [*, errW_none, errW_some] <;> rfl), by repeat (first | (with_reducible first | exact HB.out | apply below_alloc | apply pw_below_drewN | apply below_drew1 | refine below_set ?_ GE105.out) | exact HB.out)⟩
  · replace c3 := Bool.eq_false_iff.mpr c3
    subst c3
    have H1 : (some false) = some r := by rw [if_neg (show ¬ (false = true) by decide)] at H; exact H
    clear H
    have H := H1
    clear H1
    obtain rfl := Option.some.inj H
    go_enter Try.func67, Try.ntmps67
    go_wp2_with (first | ((with_reducible refine gate_dst (N := 1) rfl ?_); (try (refine gate_guard (by rfl) ?_; dsimp only)); refine box_event ?hg (N := 1) ?hd (cs := #[.int .i64 a0_0, .int .i64 a0_1, .int .i64 a0_2, .int .i64 a0_3, .slice A0_4 l0_4.length c0_4]) (t := 69) ?hr ?_; (case hd => rfl); (case hg => rfl); (case hr => first | (go_simp; done) | (go_simp; rfl)); intro gb105 hg w18 hbox hb; have n0_ := Aside0.mk (below_step (by repeat (first | (with_reducible first | exact HB.out | apply below_alloc | apply pw_below_drewN | apply below_drew1) | exact HB.out)) hb); have n1_ := Aside0.mk (hbox); have n2_ := Aside0.mk ((by rw [hg]; exact (below_size (by repeat (first | (with_reducible first | exact HB.out | apply below_alloc | apply pw_below_drewN | apply below_drew1) | exact HB.out))) : w.heap.size ≤ gb105)); have n3_ := Aside0.mk ((by rw [hg]; exact (below_size (by repeat (first | (with_reducible first | exact HB.out | apply below_alloc | apply pw_below_drewN | apply below_drew1) | exact HB.out))) : w.heap.size ≤ gb105)); clear HB; have HB := n0_; have BK105 := n1_; have GW105 := n2_; have GE105 := n3_; clear n0_ n1_ n2_ n3_; clear hb hbox hg; have hcz19_0 : w18.cell? ⟨gb105, 0, none⟩ = some (.int .i64 a0_0) := (blk_cell BK105.out 0).trans rfl; have hcz19_1 : w18.cell? ⟨gb105, 1, none⟩ = some (.int .i64 a0_1) := (blk_cell BK105.out 1).trans rfl; have hcz19_2 : w18.cell? ⟨gb105, 2, none⟩ = some (.int .i64 a0_2) := (blk_cell BK105.out 2).trans rfl; have hcz19_3 : w18.cell? ⟨gb105, 3, none⟩ = some (.int .i64 a0_3) := (blk_cell BK105.out 3).trans rfl; have hcz19_4 : w18.cell? ⟨gb105, 4, none⟩ = some (.slice A0_4 l0_4.length c0_4) := (blk_cell BK105.out 4).trans rfl; have hfz19_0 := blk_frozen BK105.out 0; have hfz19_1 := blk_frozen BK105.out 1; have hfz19_2 := blk_frozen BK105.out 2; have hfz19_3 := blk_frozen BK105.out 3; have hfz19_4 := blk_frozen BK105.out 4) | ((with_reducible refine gate_callee (f := 87) rfl ?_); refine goesL_ (some 5) rfl rfl Try.func87 (by kernel_rfl) rfl #[.int .i64 a0_0, .int .i64 1, .int .i64 256] rfl (by (try simp only [List.map_toArray, List.map_cons, List.map_nil]); first | done | rfl | (simp only [List.length_drop, List.length_take]; rfl)) ?_; (with_reducible refine (sector_within.calls a0_0 1 256 false _ A2.out).mono ?_); rintro e w' ⟨rfl, ⟨nd, rfl⟩⟩; refine ⟨_, rfl, ?_⟩))
    go_ret
    exact ⟨by first | rfl | (simp [errW_none, errW_some] <;> rfl) | (simp [*, errW_none, errW_some] <;> rfl), by repeat (first | (with_reducible first | exact HB.out | apply below_alloc | apply pw_below_drewN | apply below_drew1 | refine below_set ?_ GE105.out) | exact HB.out)⟩
end Go.Proofs.Ytopfjmeejpamjaa.PSectorGets
end
section
namespace Go.Proofs.Ytopfjmeejpamjaa
set_option linter.unusedVariables false
set_option linter.unusedSimpArgs false
set_option linter.ambiguousOpen false
open Go.RowKit Go.Proofs.YtopfjmeejpamjaaW.PrintWords Go.Proofs.YtopfjmeejpamjaaW.PrintLast Go.Proofs.YtopfjmeejpamjaaW.PrintMore
namespace Sect
open Go.Num Go.Crc PCellGets Go.Proofs.Ytopfjmeejpamjaa.Cell
theorem unfix2 (l : List Int) (hl : l.length = 2) (hb : ∀ x ∈ l, 0 ≤ x ∧ x ≤ 255) : unfixP l = (unB l, 0) ∧ 0 ≤ unB l ∧ unB l ≤ 65535 := by
  have h := unB_lt l hb
  rw [hl] at h
  have h2 : (256 : Int) ^ 2 = 65536 := by decide
  rw [h2] at h
  refine ⟨?_, h.1, by omega⟩
  unfold unfixP
  rw [if_neg (by omega), if_neg (by omega)]
theorem take_byte {l : List Int} (hb : ∀ x ∈ l, 0 ≤ x ∧ x ≤ 255) (i k : Nat) : ∀ x ∈ (l.drop i).take k, 0 ≤ x ∧ x ≤ 255 := fun x hx => hb x (List.mem_of_mem_drop (List.mem_of_mem_take hx))
theorem open_err (l : List Int) : (openP l).2 = 0 ∨ (openP l).2 = 12 := by
  unfold openP
  split
  · exact .inr rfl
  · exact .inl rfl
theorem open_len (l : List Int) (h : (openP l).2 = 0) : (openP l).1 = l.take (l.length - 4) ∧ 4 ≤ l.length := by
  unfold openP at *
  split at h
  · cases h
  · rename_i hn
    rw [if_neg hn]
    exact ⟨rfl, by omega⟩
theorem rowN {w : World} {b t : Nat} {x : Int} (hb : w.heap[b]? = some (.cells #[.int .u8 x] t (0, 0))) : Kd.C (Kd.int .u8) w (some ⟨b, 0, none⟩) 1 [x] := by
  refine Kd.C_of_reads (enc := fun x => Value.int .u8 x) (d := (0:Int)) (h1 := fun _ => rfl) ⟨rfl, by decide, fun _ => ⟨_, rfl, fun j hj => ?_⟩⟩
  obtain rfl : j = 0 := by omega
  have : (⟨b, 0, none⟩ : Addr).add 0 = ⟨b, 0, none⟩ := by unfold Addr.add; simp
  rw [this, cell_blk hb]
  rfl
theorem unfix_any {w : World} (A : Option Addr) (c : Nat) (l : List Int) (hC : Kd.C (Kd.int .u8) w A l.length l) (hc : l.length ≤ c) (hb : ∀ x ∈ l, 0 ≤ x ∧ x ≤ 255) :
    Calls Try.prog 34 #[.slice A l.length c] w fun e w' => e = .returned (.tuple #[.int .i64 (unfixP l).1, .int .i64 (unfixP l).2]) ∧ Below w.heap.size w w' :=
  (num_Unfix.calls 7 A c l _ _ w hC hc (unfix_plain 0 l hb)).mono (fun _ _ h => ⟨h.1, h.2.below⟩)
theorem R_bnd {w : World} {base t : Nat} {ok : Nat → Prop} {v : Value} {xs : List Int} (h : Kd.R (Kd.int .u8) t w base ok v xs) : Kd.R (Kd.int .u8) t w base (fun k => base ≤ k) v xs := Kd.R_mono (Kd.R_bound h) (fun k hk => hk.2.1)
theorem only_trans' {b : Nat} {x y z : World} (h : Only b x y) (k : Below x.heap.size y z) : Only b x z :=
  ⟨k.os.trans h.os, k.tape.trans h.tape, k.output.trans h.output, Nat.le_trans h.size k.size, fun q hq hn => (k.block q hq).trans (h.block q hq hn)⟩
theorem pc_lt {w : World} {base cb : Nat} {bs : List Int} {bad : Bool} (h : PC w base cb bs bad) : cb < w.heap.size ∧ base ≤ cb := by
  unfold PC at h
  cases bad with
  | true => exact ⟨blk_lt h.2.2, h.1⟩
  | false => obtain ⟨_, _, _, _, _, h⟩ := h; exact ⟨blk_lt h.cells, h.cbase⟩
theorem append_same {a b c d : List Int} (h : a ++ b = c ++ d) (hl : a.length = c.length) : a = c ∧ b = d := List.append_inj h hl
theorem open_seal (l : List Int) : openP (sealB l) = (l, 0) := by
  unfold openP
  have e : (sealB l).length - 4 = l.length := by rw [seal_len]; omega
  rw [e, if_neg]
  · unfold sealB
    rw [List.take_left]
  · rintro (h | h)
    · rw [seal_len] at h; omega
    · apply h
      unfold sealB
      rw [List.drop_left, List.take_left]
theorem open_ok (l : List Int) (h : (openP l).2 = 0) : l = sealB (openP l).1 := by
  unfold openP at *
  split at h
  · cases h
  · rename_i hn
    rw [if_neg hn]
    have h2 : l.drop (l.length - 4) = leB (Crc.sum (l.take (l.length - 4))) 4 := Classical.not_not.1 (fun e => hn (.inr e))
    show l = sealB (l.take (l.length - 4))
    unfold sealB
    rw [← h2, List.take_append_drop]
theorem seal_inj {a b : List Int} (h : sealB a = sealB b) : a = b := by
  have hl : a.length = b.length := by
    have := congrArg List.length h
    rw [seal_len, seal_len] at this
    omega
  unfold sealB at h
  exact (append_same h hl).1
theorem unfix_le (n : Int) (h0 : 0 ≤ n) (h1 : n ≤ 2147483647) (k : Nat) (hk1 : 1 ≤ k) (hk : k ≤ 4) (hs : n < 256 ^ k) : unfixP (leB n k) = (n, 0) := by
  unfold unfixP
  rw [leB_len, if_neg (by omega), unB_leB_small n k h0 hs, if_neg (by omega)]
theorem unfix_leB (l : List Int) (hb : ∀ x ∈ l, 0 ≤ x ∧ x ≤ 255) (k : Nat) (hk : l.length = k) (h2 : (unfixP l).2 = 0) : leB (unfixP l).1 k = l := by
  unfold unfixP at *
  split at h2
  · cases h2
  · rename_i h
    rw [if_neg h]
    split at h2
    · cases h2
    · rename_i h'
      rw [if_neg h', ← hk]
      exact leB_unB l hb
theorem maxL_rep (k : Nat) : maxL (List.replicate k 0) = 0 := by
  induction k with
  | zero => rfl
  | succ k ih => rw [List.replicate_succ]; simp [maxL, ih]
theorem cut2 {a b l : List Int} (k : Nat) (h : l = a ++ b) (hk : a.length = k) : l.take k = a ∧ l.drop k = b := by
  subst h; subst hk
  exact ⟨List.take_left, List.drop_left⟩
theorem all_zero (l : List Int) (hb : ∀ x ∈ l, 0 ≤ x ∧ x ≤ 255) (h : maxL l = 0) : l = List.replicate l.length 0 := by
  rw [List.eq_replicate_iff]
  exact ⟨rfl, fun x hx => (maxL_zero l hb).1 h x hx⟩
theorem own_byte {l : List Int} (hb : ∀ x ∈ l, 0 ≤ x ∧ x ≤ 255) (h : (openP l).2 = 0) : ∀ x ∈ (openP l).1, 0 ≤ x ∧ x ≤ 255 := fun x hx => hb x (by rw [(open_len l h).1] at hx; exact List.mem_of_mem_take hx)
theorem wrap_id (z : Int) (h0 : -9223372036854775808 ≤ z) (h1 : z ≤ 9223372036854775807) : wrap64 z = z := by
  first | (unfold wrap64; omega) | (simp [wrap64]; omega)
theorem xfix_any (k : Nat) (hk : 7 ≤ k) (n w : Int) : chantryref01_Fix.f k n w = some (fixP n w) := by
  obtain ⟨j, rfl⟩ : ∃ j, k = j + 7 := ⟨k - 7, by omega⟩
  exact xfix_plain j n w
theorem nilC (x : World) : Kd.C (Kd.int .u8) x none 0 [] := ⟨rfl, by decide, fun h => absurd h (by decide)⟩
theorem C_but {w w2 : World} {b t n : Nat} {cs : Array Value} {A : Option Addr} {xs : List Int} (h : Kd.C (Kd.int .u8) w A n xs) (hb : w.heap[b]? = some (.cells cs t (0, 0))) (hne : ∀ (k : Nat) (v : Int), cs[k]? ≠ some (.int .u8 v)) (hf : ∀ k, k ≠ b → w2.heap[k]? = w.heap[k]?) : Kd.C (Kd.int .u8) w2 A n xs := by
  have hn : xs.length = n := h.1
  by_cases h0 : 0 < n
  · obtain ⟨a, rfl, _⟩ := h.2.2 h0
    refine Kd.C_of_reads (enc := fun x => Value.int .u8 x) (d := (0:Int)) (h1 := fun _ => rfl) ⟨hn, h.2.1, fun _ => ⟨_, rfl, fun j hj => ?_⟩⟩
    obtain ⟨a', e, hc⟩ := Kd.at_int h (j : Int) (by omega) (by omega)
    cases e
    rw [Int.toNat_natCast] at hc
    have hbk : (a.add j).block ≠ b := by
      intro e
      unfold World.cell? at hc
      rw [e, hb] at hc
      simp only at hc
      split at hc
      · cases hc
      · exact hne _ _ hc
    unfold World.cell? at hc ⊢
    rw [hf _ hbk]
    simpa [rd] using hc
  · obtain rfl : n = 0 := by omega
    exact ⟨hn, h.2.1, fun h => absurd h h0⟩
theorem below_up {x y : World} {k : Nat} (h : Below k x y) (hk : k ≤ x.heap.size := by omega) : Below k x y := h
theorem xunfix_any {w : World} (A : Option Addr) (c : Nat) (l : List Int) (n : Nat) (hn : l.length = n) (hC : Kd.C (Kd.int .u8) w A n l) (hc : n ≤ c) (hb : ∀ x ∈ l, 0 ≤ x ∧ x ≤ 255) :
    Calls Try.prog 43 #[.slice A n c] w fun e w' => e = .returned (.tuple #[.int .i64 (unfixP l).1, .int .i64 (unfixP l).2]) ∧ Below w.heap.size w w' := by
  subst hn
  exact (chantryref01_Unfix.calls 7 A c l _ _ w hC hc (xunfix_plain 0 l hb)).mono (fun _ _ h => ⟨h.1, h.2.below⟩)
end Sect
end Go.Proofs.Ytopfjmeejpamjaa
namespace Go.Proofs.Ytopfjmeejpamjaa
set_option linter.unusedVariables false
set_option linter.unusedSimpArgs false
open Go.RowKit Go.Proofs.YtopfjmeejpamjaaW.PrintWords Go.Proofs.YtopfjmeejpamjaaW.PrintLast Go.Proofs.YtopfjmeejpamjaaW.PrintMore
namespace Sect
set_option linter.ambiguousOpen false
open Go.Num Go.Crc Go.Proofs.Ytopfjmeejpamjaa.Cell
def secOk (k e n l : Int) (d : List Int) : Bool := decide (1 ≤ k ∧ k ≤ 255 ∧ 0 ≤ l ∧ l ≤ 65535 ∧ 0 ≤ e ∧ e ≤ 2147483647 ∧ 0 ≤ n ∧ n ≤ 2147483647 ∧ d.length ≤ 48)
theorem within_plain (n a b : Int) : PSectorGets.sector_within.f n a b = some (decide (a ≤ n ∧ n < b)) := by
  unfold PSectorGets.sector_within.f
  by_cases h : n ≥ a
  · rw [if_pos h]; congr 1; exact decide_eq_decide.2 (by omega)
  · rw [if_neg h]; congr 1; exact (decide_eq_false (by omega)).symm
theorem may_plain (k e n l : Int) (d : List Int) : PSectorGets.sector_may.f k e n l d = some (secOk k e n l d) := by
  unfold PSectorGets.sector_may.f secOk
  simp only [within_plain, Option.bind_some]
  repeat' split
  all_goals first | (congr 1; exact decide_eq_decide.2 (by simp_all; omega)) | (congr 1; exact (decide_eq_false (by simp_all; omega)).symm) | (congr 1; exact (decide_eq_false (fun hh => by simp_all; omega)).symm)
def headS (k e n l : Int) (d : List Int) : List Int := leB k 1 ++ (leB (d.length : Int) 1 ++ (leB l 2 ++ (leB e 4 ++ leB n 4)))
def bodyS (k e n l : Int) (d : List Int) : List Int := (headS k e n l d ++ d) ++ List.replicate (48 - d.length) 0
theorem headS_len (k e n l : Int) (d : List Int) : (headS k e n l d).length = 12 := by simp [headS, leB_len]
theorem bodyS_len (k e n l : Int) (d : List Int) (hd : d.length ≤ 48) : (bodyS k e n l d).length = 60 := by
  unfold bodyS
  rw [List.length_append, List.length_append, headS_len, List.length_replicate]
  omega
theorem headS_byte (k e n l : Int) (d : List Int) : ∀ y ∈ headS k e n l d, 0 ≤ y ∧ y ≤ 255 := by
  intro y hy
  unfold headS at hy
  rcases List.mem_append.1 hy with h | h
  · exact leB_byte _ _ y h
  rcases List.mem_append.1 h with h | h
  · exact leB_byte _ _ y h
  rcases List.mem_append.1 h with h | h
  · exact leB_byte _ _ y h
  rcases List.mem_append.1 h with h | h
  · exact leB_byte _ _ y h
  · exact leB_byte _ _ y h
theorem bodyS_byte (k e n l : Int) (d : List Int) (hb : ∀ y ∈ d, 0 ≤ y ∧ y ≤ 255) : ∀ y ∈ bodyS k e n l d, 0 ≤ y ∧ y ≤ 255 := by
  intro y hy
  unfold bodyS at hy
  rcases List.mem_append.1 hy with h | h
  · rcases List.mem_append.1 h with h | h
    · exact headS_byte _ _ _ _ _ y h
    · exact hb y h
  · rw [(List.mem_replicate.1 h).2]; omega
def putS (k e n l : Int) (d : List Int) : List Int × Int := if secOk k e n l d = true then (sealB (bodyS k e n l d), 0) else ([], 1)
theorem fix_ok (n : Int) (j : Nat) (hj : j = 1 ∨ j = 2 ∨ j = 4) (h : 0 ≤ n ∧ n < 256 ^ j ∧ n ≤ 2147483647) : fixP n (j : Int) = (leB n j, 0) := by
  unfold fixP
  rcases hj with rfl | rfl | rfl
  · rw [if_neg (by rw [show (256 : Int) ^ (((1 : Nat) : Int)).toNat = 256 from by decide]; omega)]; rfl
  · rw [if_neg (by rw [show (256 : Int) ^ (((2 : Nat) : Int)).toNat = 65536 from by decide]; omega)]; rfl
  · rw [if_neg (by rw [show (256 : Int) ^ (((4 : Nat) : Int)).toNat = 4294967296 from by decide]; omega)]; rfl
theorem fixk_any (n : Int) (j : Nat) (w : World) (hj : j = 1 ∨ j = 2 ∨ j = 4) (h : 0 ≤ n ∧ n < 256 ^ j ∧ n ≤ 2147483647) :
    Calls Try.prog 27 #[.int .i64 n, .int .i64 (j : Int)] w fun e w' => ∃ v, e = .returned (.tuple #[v, .int .i64 0]) ∧ Kd.R (Kd.int .u8) 5 w' w.heap.size (fun _ => True) v (leB n j) ∧ Below w.heap.size w w' := by
  have hf := fix_ok n j hj h
  rcases hj with rfl | rfl | rfl
  · have := fix1_any n w (by omega)
    rw [show ((1 : Nat) : Int) = 1 from rfl] at hf ⊢
    rw [hf] at this
    exact this
  · have := fix2_any n w (by omega)
    rw [show ((2 : Nat) : Int) = 2 from rfl] at hf ⊢
    rw [hf] at this
    exact this
  · have := fix4_any n w (by omega)
    rw [show ((4 : Nat) : Int) = 4 from rfl] at hf ⊢
    rw [hf] at this
    exact this
structure PB (w0 w : World) (b : Nat) (xs : List Int) (A : Option Addr) (c : Nat) : Prop where
  below : Below w0.heap.size w0 w
  at_b : w.heap[b]? = some (.cells #[.slice A xs.length c] 26 (0, 0))
  base : w0.heap.size ≤ b
  row : Kd.R (Kd.int .u8) 5 w w0.heap.size (fun _ => True) (.slice A xs.length c) xs
theorem PB.lt {w0 w : World} {b c : Nat} {xs : List Int} {A : Option Addr} (h : PB w0 w b xs A c) : b < w.heap.size := blk_lt h.at_b
theorem PB.step {w0 w w' : World} {b c : Nat} {xs : List Int} {A : Option Addr} (h : PB w0 w b xs A c) (hb : Below w.heap.size w w') : PB w0 w' b xs A c :=
  ⟨h.below.trans (hb.mono h.below.size), (hb.block _ h.lt).trans h.at_b, h.base, Kd.R_below h.row hb⟩
theorem one_set {w : World} {b t : Nat} {a0 : Value} (h : w.heap[b]? = some (.cells #[a0] t (0, 0))) (v0 : Value) : (w.setCell ⟨b, 0, none⟩ v0).heap[b]? = some (.cells #[v0] t (0, 0)) := by
  have := blk_set h 0 v0
  rw [this]
  rfl
theorem R_setne {w : World} {base b t : Nat} {cs : Array Value} {v u : Value} {xs : List Int} (h : Kd.R (Kd.int .u8) 5 w base (fun _ => True) v xs) (hb : w.heap[b]? = some (.cells cs t (0, 0))) (ht : t ≠ 5) : Kd.R (Kd.int .u8) 5 (w.setCell ⟨b, 0, none⟩ u) base (fun _ => True) v xs :=
  Kd.R_mono (Kd.R_step (Kd.R_bound h) (fun k hk hlt => Below.heap_setCell w ⟨b, 0, none⟩ u k (fun e => by
    obtain ⟨_, _, _, q, hq, cells, hcl⟩ := hk
    have e : k = b := e
    rw [e, hb] at hcl
    cases hcl
    simp [Kd.int, Kd.scalar] at hq
    exact ht hq))) (fun _ _ => trivial)
set_option maxHeartbeats 8000000 in
set_option maxRecDepth 100000 in
theorem put1_any {w0 w : World} {b c : Nat} {xs : List Int} {A : Option Addr} (h : PB w0 w b xs A c) (n : Int) (j : Nat) (hj : j = 1 ∨ j = 2 ∨ j = 4) (hn : 0 ≤ n ∧ n < 256 ^ j ∧ n ≤ 2147483647) (hx : xs.length ≤ 1000) :
    Calls Try.prog 68 #[.int .i64 n, .int .i64 (j : Int), .pointer (some ⟨b, 0, none⟩)] w fun e w' => (∃ v, e = .returned v) ∧ ∃ A' c', PB w0 w' b (xs ++ leB n j) A' c' ∧ ∀ (i t : Nat) (cs : Array Value), t ≠ 5 → i ≠ b → w.heap[i]? = some (.cells cs t (0, 0)) → w'.heap[i]? = some (.cells cs t (0, 0)) := by
  have H := Aside0.mk h
  clear h
  obtain ⟨J, hJ⟩ : ∃ J : Int, J = (j : Int) := ⟨_, rfl⟩
  have HFX := fixk_any n j w hj hn
  rw [← hJ] at HFX
  have HF := Aside0.mk HFX
  rw [← hJ]
  clear HFX hJ
  go_enter Try.func68, Try.ntmps68
  go_wp2_with fail
  refine HF.out.mono ?_
  clear HF
  rintro e w1 ⟨v1, rfl, hr1, b1⟩
  obtain ⟨A1, c1, rfl⟩ := Kd.R_slice hr1
  have H1 := Aside0.mk (H.out.step b1)
  have HC1 := Aside0.mk (row_at hr1)
  have HK := Aside0.mk (show ∀ (i t : Nat) (cs : Array Value), t ≠ 5 → i ≠ b → w.heap[i]? = some (.cells cs t (0, 0)) → w1.heap[i]? = some (.cells cs t (0, 0)) from fun i t cs _ _ hi => (b1.block _ (blk_lt hi)).trans hi)
  have hl1 := leB_len n j
  rw [hl1]
  have HL1 := Aside0.mk hl1
  have q0 : w1.cell? ⟨b, 0, none⟩ = some (.slice A xs.length c) := cell_blk H1.out.at_b
  clear hr1 b1 H hl1
  go_wp2_with ((with_reducible refine gate_builtin (b := .append) (xs := #[.tmp 13, .tmp 14]) rfl ?_); at_builtin; refine Hid.out ?_)
  refine Lib.hid ?_
  refine Kd.R_append_rows (Kd.int .u8) (Rr := (Kd.int .u8).K w1) (w0 := w0) w0.heap.size rfl (.tmp 13) (.tmp 14) 26 5 (.int .u8 0) 1 rfl Try.underlying26 infoU8 rfl (by decide) (by omega) (.slice A xs.length c) xs (leB n j) A1 j c1 (fun _ => True) (fun _ => False) rfl rfl H1.out.row (by have := HC1.out; rw [HL1.out] at this; exact this) (fun x cs h => h) (fun _ hk => hk.elim) (fun _ _ => trivial) H1.out.below H1.out.below.size (by rcases hj with rfl | rfl | rfl <;> (show (xs.length + _) * 1 ≤ _; omega)) ?_
  intro v2 w2 ho hb hg _
  obtain ⟨A2, c2, rfl⟩ := Kd.R_slice ho
  have hb2 : w2.heap[b]? = some (.cells #[.slice A xs.length c] 26 (0, 0)) := (hg.block b H1.out.lt (Kd.R_ne H1.out.row H1.out.at_b (by decide))).trans H1.out.at_b
  have HB2 := Aside0.mk hb2
  have HK2 := Aside0.mk (show ∀ (i t : Nat) (cs : Array Value), t ≠ 5 → i ≠ b → w.heap[i]? = some (.cells cs t (0, 0)) → w2.heap[i]? = some (.cells cs t (0, 0)) from fun i t cs ht hi hc => by
    have := HK.out i t cs ht hi hc
    exact (hg.block i (blk_lt this) (Kd.R_ne H1.out.row this (Ne.symm ht))).trans this)
  have HO2 := Aside0.mk ho
  have HW2 := Aside0.mk hb
  have HBB := Aside0.mk H1.out.base
  have f0 : w2.frozen? ⟨b, 0, none⟩ = false := frozen_blk hb2
  have g0 : w2.cell? ⟨b, 0, none⟩ = some (.slice A xs.length c) := cell_blk hb2
  clear ho hb hg H1 hb2 HK HC1 q0
  go_wp2_with fail
  go_end0
  refine ⟨⟨_, rfl⟩, A2, c2, ⟨HW2.out.setCell HBB.out _, ?_, HBB.out, R_setne HO2.out HB2.out (by decide)⟩, fun i t cs ht hi hc => ?_⟩
  · rw [List.length_append]
    exact one_set HB2.out _
  · exact (Below.heap_setCell w2 ⟨b, 0, none⟩ _ i hi).trans (HK2.out i t cs ht hi hc)
theorem makeSlice0 (W : World) : (Instr.makeSlice 26 (.int .i64 0) (.int .i64 64)).run Try.prog W = .ok (.slice (some ⟨W.heap.size, 0, none⟩) 0 64) (W.alloc (.cells (madeCells #[.int .u8 0] 64) 5)) := by
  have hinfo := infoU8
  cases hi : Try.prog.info? 5 with
  | none => rw [hi] at hinfo; simp at hinfo
  | some i =>
    rw [hi] at hinfo
    simp only [Option.map_some, Option.some.injEq, Prod.mk.injEq] at hinfo
    obtain ⟨hz, hs, hb⟩ := hinfo
    have := run_makeSlice (w := W) (P := Try.prog) 26 5 i (.int .u8 0) Try.underlying26 hi hz .i64 .i64 0 64 (by decide) (by decide) (by rw [hs]; decide) (by rw [hb]; decide) (by decide)
    rw [hs] at this
    exact this
theorem fresh0 (w0 W : World) (hb : Below w0.heap.size w0 W) : PB w0 ((W.alloc (.cells (madeCells #[.int .u8 0] 64) 5)).alloc (.cells #[.slice (some ⟨W.heap.size, 0, none⟩) 0 64] 26)) (W.heap.size + 1) [] (some ⟨W.heap.size, 0, none⟩) 64 := by
  have h1 : (W.alloc (.cells (madeCells #[.int .u8 0] 64) 5)).heap[W.heap.size]? = some (.cells (([] : List Int).map (Value.int .u8) ++ (List.replicate 64 (0 : Int)).map (Value.int .u8)).toArray 5 (0, 0)) := by
    rw [made8]
    exact heap_alloc_new W _
  have b2 : Below (W.alloc (.cells (madeCells #[.int .u8 0] 64) 5)).heap.size (W.alloc (.cells (madeCells #[.int .u8 0] 64) 5)) ((W.alloc (.cells (madeCells #[.int .u8 0] 64) 5)).alloc (.cells #[.slice (some ⟨W.heap.size, 0, none⟩) 0 64] 26)) := (Below.refl _ _).alloc (Nat.le_refl _) _
  refine ⟨(hb.alloc hb.size _).alloc (Nat.le_trans hb.size (by simp)) _, ?_, Nat.le_trans hb.size (by omega), ?_⟩
  · have := heap_alloc_new (W.alloc (.cells (madeCells #[.int .u8 0] 64) 5)) (.cells #[.slice (some ⟨W.heap.size, 0, none⟩) 0 64] 26)
    rw [World.size_alloc] at this
    exact this
  · exact Kd.R_below (row_of (xs := []) (cap := 64) (ok := fun _ => True) h1 hb.size trivial (by simp) (by decide)) b2
theorem cells5 {x : World} {b t : Nat} {v0 v1 v2 v3 v4 : Value} (h : x.heap[b]? = some (.cells #[v0, v1, v2, v3, v4] t (0, 0))) : x.cell? ⟨b, 0, none⟩ = some v0 ∧ x.cell? ⟨b, 1, none⟩ = some v1 ∧ x.cell? ⟨b, 2, none⟩ = some v2 ∧ x.cell? ⟨b, 3, none⟩ = some v3 ∧ x.cell? ⟨b, 4, none⟩ = some v4 := ⟨cell_blk h, cell_blk h, cell_blk h, cell_blk h, cell_blk h⟩
theorem ok_parts {k e n l : Int} {d : List Int} (h : secOk k e n l d = true) : 1 ≤ k ∧ k ≤ 255 ∧ 0 ≤ l ∧ l ≤ 65535 ∧ 0 ≤ e ∧ e ≤ 2147483647 ∧ 0 ≤ n ∧ n ≤ 2147483647 ∧ d.length ≤ 48 := by
  unfold secOk at h
  exact of_decide_eq_true h
set_option maxHeartbeats 8000000 in
set_option maxRecDepth 100000 in
theorem put_any {w : World} (k e n l : Int) (A : Option Addr) (c : Nat) (d : List Int) (hC : Kd.C (Kd.int .u8) w A d.length d) (hc : d.length ≤ c) (hb : ∀ y ∈ d, 0 ≤ y ∧ y ≤ 255) :
    Calls Try.prog 28 #[.agg #[.int .i64 k, .int .i64 e, .int .i64 n, .int .i64 l, .slice A d.length c]] w fun r w' => ∃ v, r = .returned (.tuple #[v, .int .i64 (putS k e n l d).2]) ∧ Kd.R (Kd.int .u8) 5 w' w.heap.size (fun _ => True) v (putS k e n l d).1 ∧ Below w.heap.size w w' := by
  have HC := Aside0.mk hC
  have HBY := Aside0.mk hb
  clear hC hb
  obtain ⟨R, hR⟩ : ∃ R, R = putS k e n l d := ⟨_, rfl⟩
  rw [← hR]
  obtain ⟨W, hW⟩ : ∃ W, W = w.alloc (.cells #[.int .i64 k, .int .i64 e, .int .i64 n, .int .i64 l, .slice A d.length c] 69) := ⟨_, rfl⟩
  have HB0 := Aside0.mk (show Below w.heap.size w W by rw [hW]; exact (Below.refl _ _).alloc (Nat.le_refl _) _)
  have hbx : W.heap[w.heap.size]? = some (.cells #[.int .i64 k, .int .i64 e, .int .i64 n, .int .i64 l, .slice A d.length c] 69 (0, 0)) := by rw [hW]; exact heap_alloc_new w _
  have HBX := Aside0.mk hbx
  have HWE := Aside0.mk hW
  clear hW hbx
  obtain ⟨b, hbo⟩ : ∃ b, b = secOk k e n l d := ⟨_, rfl⟩
  have hmay := PSectorGets.sector_may.calls k e n l A c d b W (Kd.C_below HC.out HB0.out) hc (by rw [may_plain, hbo])
  have HM := Aside0.mk hmay
  clear hmay
  cases b with
  | false =>
    have HQ := Aside0.mk (show R = ([], 1) by rw [hR]; unfold putS; rw [← hbo]; rfl)
    clear hR hbo
    go_enter Try.func28, Try.ntmps28
    go_wp2_with fail
    rw [← HWE.out]
    refine HM.out.mono ?_
    rintro e w1 ⟨rfl, b1⟩
    have HB1 := Aside0.mk (HB0.out.trans (b1.mono HB0.out.size))
    clear b1
    go_wp2_with fail
    go_ret2
    exact ⟨_, by rw [HQ.out]; rfl, by rw [HQ.out]; exact Kd.R_nil _ _ _ _ _, HB1.out⟩
  | true =>
    have hok := ok_parts hbo.symm
    have HQ := Aside0.mk (show R = (sealB (bodyS k e n l d), 0) by rw [hR]; unfold putS; rw [← hbo]; rfl)
    clear hR hbo
    have hm0 := makeSlice0
    go_enter Try.func28, Try.ntmps28
    go_wp2_with fail
    rw [← HWE.out]
    refine HM.out.mono ?_
    rintro e w1 ⟨rfl, b1⟩
    have k1 := (b1.block _ (blk_lt HBX.out)).trans HBX.out
    have HB1 := Aside0.mk (HB0.out.trans (b1.mono HB0.out.size))
    have HK1 := Aside0.mk k1
    have hcl : ∀ ob ob', ((w1.alloc ob).alloc ob').heap[w.heap.size]? = some (.cells #[.int .i64 k, .int .i64 e, .int .i64 n, .int .i64 l, .slice A d.length c] 69 (0, 0)) := fun ob ob' => (Below.heap_alloc _ _ _ (by have := blk_lt k1; simp; omega)).trans ((Below.heap_alloc _ _ _ (blk_lt k1)).trans k1)
    have c0 : ∀ ob ob', ((w1.alloc ob).alloc ob').cell? ⟨w.heap.size, 0, none⟩ = some (.int .i64 k) := fun ob ob' => (cells5 (hcl ob ob')).1
    have HCL := Aside0.mk hcl
    clear b1 k1 hcl
    go_wp2_with fail
    clear c0
    obtain ⟨w2, hw2⟩ : ∃ w2, w2 = ((w1.alloc (.cells (madeCells #[.int .u8 0] 64) 5)).alloc (.cells #[.slice (some ⟨w1.heap.size, 0, none⟩) 0 64] 26)) := ⟨_, rfl⟩
    have hp2 := fresh0 w w1 HB1.out
    have hk2 := HCL.out (.cells (madeCells #[.int .u8 0] 64) 5) (.cells #[.slice (some ⟨w1.heap.size, 0, none⟩) 0 64] 26)
    rw [← hw2] at hp2 hk2 ⊢
    have hne : w.heap.size ≠ w1.heap.size + 1 := by have := HB1.out.size; omega
    obtain ⟨g, hg⟩ : ∃ g, g = w1.heap.size + 1 := ⟨_, rfl⟩
    rw [← hg] at hp2 hne ⊢
    have HNE := Aside0.mk hne
    have HP2 := Aside0.mk hp2
    have HK2 := Aside0.mk hk2
    clear hw2 hp2 hk2 hg hne HCL
    rw [show (1 : Int) = ((1 : Nat) : Int) from rfl]
    refine (put1_any HP2.out k 1 (by decide) (by omega) (by simp [leB_len])).mono ?_
    rintro r w3 ⟨⟨v3, rfl⟩, A3, c3, hp3, hf3⟩
    have HP3 := Aside0.mk hp3
    have HK3 := Aside0.mk (hf3 _ _ _ (by decide) HNE.out HK2.out)
    clear hp3 hf3 HP2 HK2
    obtain ⟨-, e1, e2, e3, e4⟩ := cells5 HK3.out
    go_wp2_with fail
    clear e1 e2 e3 e4
    rw [show (1 : Int) = ((1 : Nat) : Int) from rfl]
    refine (put1_any HP3.out (d.length : Int) 1 (by decide) (by omega) (by simp [leB_len])).mono ?_
    rintro r w4 ⟨⟨v4, rfl⟩, A4, c4, hp4, hf4⟩
    have HP4 := Aside0.mk hp4
    have HK4 := Aside0.mk (hf4 _ _ _ (by decide) HNE.out HK3.out)
    clear hp4 hf4 HP3 HK3
    obtain ⟨-, e1, e2, e3, e4⟩ := cells5 HK4.out
    go_wp2_with fail
    clear e1 e2 e3 e4
    rw [show (2 : Int) = ((2 : Nat) : Int) from rfl]
    refine (put1_any HP4.out l 2 (by decide) (by omega) (by simp [leB_len])).mono ?_
    rintro r w5 ⟨⟨v5, rfl⟩, A5, c5, hp5, hf5⟩
    have HP5 := Aside0.mk hp5
    have HK5 := Aside0.mk (hf5 _ _ _ (by decide) HNE.out HK4.out)
    clear hp5 hf5 HP4 HK4
    obtain ⟨-, e1, e2, e3, e4⟩ := cells5 HK5.out
    go_wp2_with fail
    clear e1 e2 e3 e4
    rw [show (4 : Int) = ((4 : Nat) : Int) from rfl]
    refine (put1_any HP5.out e 4 (by decide) (by omega) (by simp [leB_len])).mono ?_
    rintro r w6 ⟨⟨v6, rfl⟩, A6, c6, hp6, hf6⟩
    have HP6 := Aside0.mk hp6
    have HK6 := Aside0.mk (hf6 _ _ _ (by decide) HNE.out HK5.out)
    clear hp6 hf6 HP5 HK5
    obtain ⟨-, e1, e2, e3, e4⟩ := cells5 HK6.out
    go_wp2_with fail
    clear e1 e2 e3 e4
    rw [show (4 : Int) = ((4 : Nat) : Int) from rfl]
    refine (put1_any HP6.out n 4 (by decide) (by omega) (by simp [leB_len])).mono ?_
    rintro r w7 ⟨⟨v7, rfl⟩, A7, c7, hp7, hf7⟩
    have HP7 := Aside0.mk hp7
    have HK7 := Aside0.mk (hf7 _ _ _ (by decide) HNE.out HK6.out)
    clear hp7 hf7 HP6 HK6
    have HP := Aside0.mk (show PB w w7 g (headS k e n l d) A7 c7 by have := HP7.out; rw [show ((((([] : List Int) ++ leB k 1) ++ leB (d.length : Int) 1) ++ leB l 2) ++ leB e 4) ++ leB n 4 = headS k e n l d by simp [headS]] at this; exact this)
    clear HP7
    obtain ⟨-, -, -, -, e4⟩ := cells5 HK7.out
    have q0 : w7.cell? ⟨g, 0, none⟩ = some (.slice A7 12 c7) := by have := HP.out.at_b; rw [headS_len] at this; exact cell_blk this
    go_wp2_with ((with_reducible refine gate_builtin (b := .append) (xs := #[.tmp 32, .tmp 34]) rfl ?_); at_builtin; refine Hid.out ?_)
    refine Lib.hid ?_
    have hrow : Kd.R (Kd.int .u8) 5 w7 w.heap.size (fun _ => True) (.slice A7 12 c7) (headS k e n l d) := by have := HP.out.row; rw [headS_len] at this; exact this
    refine Kd.R_append_rows (Kd.int .u8) (Rr := (Kd.int .u8).K w7) (w0 := w) w.heap.size rfl (.tmp 32) (.tmp 34) 26 5 (.int .u8 0) 1 rfl Try.underlying26 infoU8 rfl (by decide) (by omega) (.slice A7 12 c7) (headS k e n l d) d A d.length c (fun _ => True) (fun _ => False) rfl rfl hrow (Kd.C_below HC.out HP.out.below) (fun x cs h => h) (fun _ hk => hk.elim) (fun _ _ => trivial) HP.out.below HP.out.below.size (by rw [headS_len]; omega) ?_
    intro v8 w8 ho hb hg _
    obtain ⟨A8, c8, rfl⟩ := Kd.R_slice ho
    have hb8 : w8.heap[g]? = some (.cells #[.slice A7 12 c7] 26 (0, 0)) := by
      have h0 := HP.out.at_b
      rw [headS_len] at h0
      exact (hg.block g (blk_lt h0) (Kd.R_ne hrow h0 (by decide))).trans h0
    have HB8 := Aside0.mk hb8
    have HO8 := Aside0.mk ho
    have HW8 := Aside0.mk hb
    have HGB := Aside0.mk HP.out.base
    have f0 : w8.frozen? ⟨g, 0, none⟩ = false := frozen_blk hb8
    have g0 : w8.cell? ⟨g, 0, none⟩ = some (.slice A7 12 c7) := cell_blk hb8
    have hl8 : (headS k e n l d ++ d).length = 12 + d.length := by rw [List.length_append, headS_len]
    have HL8 := Aside0.mk hl8
    rw [hl8]
    clear ho hb hg hb8 HP hrow e4 q0 hl8
    go_wp2_with ((with_reducible refine gate_builtin (b := .append) (xs := #[.tmp 36, .tmp 39]) rfl ?_); at_builtin; refine Hid.out ?_)
    refine Lib.hid ?_
    obtain ⟨w9, hw9⟩ : ∃ w9, w9 = w8.setCell ⟨g, 0, none⟩ (.slice A8 (12 + d.length) c8) := ⟨_, rfl⟩
    have HW9 := Aside0.mk (show Below w.heap.size w w9 by rw [hw9]; exact HW8.out.setCell HGB.out _)
    have HO9 := Aside0.mk (show Kd.R (Kd.int .u8) 5 w9 w.heap.size (fun _ => True) (.slice A8 (12 + d.length) c8) (headS k e n l d ++ d) by
      rw [hw9, ← HL8.out]
      exact R_setne HO8.out HB8.out (by decide))
    rw [← hw9]
    clear hw9 HO8 HB8 HW8 f0 g0
    refine Kd.R_append_zeros (Kd.int .u8) (w0 := w) w.heap.size rfl (.tmp 36) (.tmp 39) 26 3 5 (.int .u8 0) 1 rfl Try.underlying26 Try.underlying3 infoU8 rfl (by decide) (by omega) (.slice A8 (12 + d.length) c8) (headS k e n l d ++ d) 0 (kx := .i64) (60 - (12 + (d.length : Int))) (fun _ => True) rfl rfl rfl (fun _ _ => trivial) HO9.out (by omega) HW9.out HW9.out.size (by rw [HL8.out]; omega) ?_
    intro v10 w10 ho hb _ _
    rw [show (60 - (12 + (d.length : Int))).toNat = 48 - d.length by omega] at ho
    have HO10 := Aside0.mk (show Kd.R (Kd.int .u8) 5 w10 w.heap.size (fun _ => True) v10 (bodyS k e n l d) from ho)
    have HW10 := Aside0.mk hb
    clear ho hb
    obtain ⟨A10, c10, rfl⟩ := Kd.R_slice HO10.out
    have hbl := bodyS_len k e n l d (by omega)
    have HBL := Aside0.mk hbl
    go_wp2_with fail
    have hsl := seal_any A10 c10 (bodyS k e n l d) w10 (row_at HO10.out) (bodyS_byte k e n l d HBY.out) (by omega)
    rw [HBL.out] at hsl
    refine hsl.mono ?_
    clear hsl
    rintro r w11 ⟨v11, rfl, hr11, b11⟩
    have HR11 := Aside0.mk (Kd.R_lower hr11 HW10.out.size)
    have HB11 := Aside0.mk (HW10.out.trans (b11.mono HW10.out.size))
    clear hr11 b11 hbl
    go_wp2_with fail
    go_ret2
    exact ⟨_, by rw [HQ.out]; rfl, by rw [HQ.out]; exact HR11.out, HB11.out⟩
end Sect
end Go.Proofs.Ytopfjmeejpamjaa
namespace Go.Proofs.Ytopfjmeejpamjaa
set_option linter.unusedVariables false
set_option linter.unusedSimpArgs false
set_option linter.ambiguousOpen false
open Go.RowKit Go.Proofs.YtopfjmeejpamjaaW.PrintWords Go.Proofs.YtopfjmeejpamjaaW.PrintLast Go.Proofs.YtopfjmeejpamjaaW.PrintMore
namespace Sect
open Go.Num Go.Crc Go.Proofs.Ytopfjmeejpamjaa.Cell
def numP (ys : List Int) : Int := if (unfixP ys).2 ≠ 0 then -1 else (unfixP ys).1
def offS : Nat → Nat | 0 => 0 | 1 => 1 | 2 => 2 | 3 => 4 | 4 => 8 | _ => 12
def wideS : Nat → Nat | 0 => 1 | 1 => 1 | 2 => 2 | 3 => 4 | _ => 4
def numsS (own : List Int) (i : Nat) : List Int := (List.range i).map (fun j => numP ((own.drop (offS j)).take (wideS j)))
theorem numsS_len (own : List Int) (i : Nat) : (numsS own i).length = i := by simp [numsS]
theorem numsS_succ (own : List Int) (i : Nat) : numsS own (i + 1) = numsS own i ++ [numP ((own.drop (offS i)).take (wideS i))] := by simp [numsS, List.range_succ]
theorem infoI64 : (Try.prog.info? 3).map (fun i => (i.zero, i.size, i.bytes)) = some (some (.int .i64 0), 1, 8) := by kernel_rfl
theorem rowI {w : World} {b t : Nat} {l : List Int} (hb : w.heap[b]? = some (.cells (l.map (Value.int .i64)).toArray t (0, 0))) (hl : l.length ≤ 1000000) : Kd.C (Kd.int .i64) w (some ⟨b, 0, none⟩) l.length l := by
  refine Kd.C_of_reads (enc := fun x => Value.int .i64 x) (d := (0:Int)) (h1 := fun _ => rfl) ⟨rfl, by omega, fun _ => ⟨_, rfl, fun j hj => ?_⟩⟩
  have hadd : (⟨b, 0, none⟩ : Addr).add j = ⟨b, j, none⟩ := by unfold Addr.add; split <;> simp_all
  rw [hadd, cell_blk hb, List.getElem?_toArray, List.getElem?_map, List.getD_eq_getElem?_getD, List.getElem?_eq_getElem hj]
  rfl
theorem RI_only {w w' : World} {cb base t : Nat} {ok : Nat → Prop} {v : Value} {xs : List Int} (h : Kd.R (Kd.int .i64) t w base ok v xs) (f : Only cb w w') (hb : cb < base) : Kd.R (Kd.int .i64) t w' base ok v xs :=
  Kd.R_mono (Kd.R_step (Kd.R_bound h) (fun k hk hlt => f.block k hlt (by have := hk.2.1; omega))) (fun k hk => hk.1)
theorem wide_unfix (own : List Int) (hl : own.length = 60) (hb : ∀ y ∈ own, 0 ≤ y ∧ y ≤ 255) (i : Nat) (hi : i < 5) : offS i + wideS i = offS (i + 1) ∧ wideS i ≤ (own.drop (offS i)).length ∧ ((own.drop (offS i)).take (wideS i)).length = wideS i ∧ (own.drop (offS i)).length = 60 - offS i ∧ wideS i ≤ 4 := by
  have h0 : (own.drop (offS i)).length = 60 - offS i := by rw [List.length_drop, hl]
  rcases (show i = 0 ∨ i = 1 ∨ i = 2 ∨ i = 3 ∨ i = 4 by omega) with rfl | rfl | rfl | rfl | rfl <;> refine ⟨rfl, ?_, ?_, h0, by decide⟩ <;> first | (rw [List.length_take, h0]; rfl) | (rw [h0]; decide)
theorem pc_kept {w w' : World} {base cb : Nat} {bs : List Int} {bad : Bool} (h : PC w base cb bs bad) (hk : ∀ (k : Nat) (cs : Array Value) (t : Nat), t ≠ 3 → w.heap[k]? = some (.cells cs t (0, 0)) → w'.heap[k]? = some (.cells cs t (0, 0))) : PC w' base cb bs bad := by
  unfold PC at *
  cases bad with
  | true => exact ⟨h.1, h.2.1, hk _ _ _ (by decide) h.2.2⟩
  | false =>
    obtain ⟨g, off, c, all, sp, h⟩ := h
    exact ⟨g, off, c, all, sp, h.cbase, hk _ _ _ (by decide) h.cells, hk _ _ _ (by decide) h.row, h.at_, h.room, h.few⟩
set_option maxHeartbeats 8000000 in
set_option maxRecDepth 100000 in
theorem numbers_any {w : World} {base cb gw : Nat} (own : List Int) (hp : PC w base cb own false) (hl : own.length = 60) (hb : ∀ y ∈ own, 0 ≤ y ∧ y ≤ 255) (hw : w.heap[gw]? = some (.cells #[.int .i64 1, .int .i64 1, .int .i64 2, .int .i64 4, .int .i64 4] 3 (0, 0))) :
    Calls Try.prog 73 #[.func (.func 35) #[.pointer (some ⟨cb, 0, none⟩)] #[], .slice (some ⟨gw, 0, none⟩) 5 5] w fun e w' => ∃ A c, e = .returned (.slice A 5 c) ∧ Kd.R (Kd.int .i64) 3 w' w.heap.size (fun _ => True) (.slice A 5 c) (numsS own 5) ∧ PC w' base cb (own.drop 12) false ∧ Only cb w w' := by
  have HP := Aside0.mk hp
  have HL := Aside0.mk hl
  have HBY := Aside0.mk hb
  have HW := Aside0.mk hw
  have HCB := Aside0.mk (pc_lt hp).1
  have HNE := Aside0.mk (show gw ≠ cb from fun e => by
    subst e
    unfold PC at hp
    simp only [Bool.false_eq_true, if_false] at hp
    obtain ⟨_, _, _, _, _, h⟩ := hp
    have := h.cells.symm.trans hw
    simp at this)
  clear hp hl hb hw
  go_enter Try.func73, Try.ntmps73
  go_wp2_with fail
  go_loopg [12, 7, 8, 9, 5] 5 (fun gk v12 v7 v8 v9 v5 wr => ∃ (i : Nat) (A' : Option Addr) (c' : Nat), Aside0 (i + gk = 5) ∧ v12 = .int .i64 i ∧ v5 = .slice A' i c' ∧ Aside0 (Kd.R (Kd.int .i64) 3 wr w.heap.size (fun _ => True) (.slice A' i c') (numsS own i)) ∧ Aside0 (PC wr base cb (own.drop (offS i)) false) ∧ Aside0 (Only cb w wr))
  case atStart => exact ⟨0, none, 0, ⟨by omega⟩, rfl, rfl, ⟨Kd.R_nil _ _ _ _ _⟩, HP, ⟨Only.refl _ _⟩⟩
  case round =>
    clear HP
    obtain ⟨i, A', c', HI, rfl, rfl, HR, HP, HO⟩ := hrel
    by_cases hi : i < 5
    · have hw2 := (HO.out.block gw (blk_lt HW.out) HNE.out).trans HW.out
      have q0 : wr.cell? ⟨gw, i, none⟩ = some (.int .i64 (wideS i : Int)) := by
        rcases (show i = 0 ∨ i = 1 ∨ i = 2 ∨ i = 3 ∨ i = 4 by omega) with rfl | rfl | rfl | rfl | rfl <;> exact cell_blk hw2
      have hlt : (i : Int) < 5 := by omega
      obtain ⟨v1, v2, v3, v4, v5⟩ := wide_unfix own HL.out HBY.out i hi
      have HV := Aside0.mk (And.intro v1 (And.intro v3 v5))
      have ht := take_yes HP.out (wideS i) v2
      have HT := Aside0.mk ht
      clear hw2 ht v1 v2 v3 v4 v5
      go_wp2_with fail
      refine HT.out.mono ?_
      clear HT q0
      rintro e w1 ⟨v1, rfl, hr1, hp1, ho1⟩
      obtain ⟨A1, c1, rfl⟩ := Kd.R_slice hr1
      have HO1 := Aside0.mk (HO.out.trans ho1)
      have HR1 := Aside0.mk (RI_only HR.out ho1 HCB.out)
      have HP1 := Aside0.mk (show PC w1 base cb (own.drop (offS (i + 1))) false by rw [← HV.out.1, ← List.drop_drop]; exact hp1)
      have HC1 := Aside0.mk (row_at hr1)
      have hc1 := (Kd.R_reads' hr1).2.1
      have HS1 := Aside0.mk ho1.size
      clear hr1 hp1 ho1 HR HP
      obtain ⟨ys, hys⟩ : ∃ ys, ys = (own.drop (offS i)).take (wideS i) := ⟨_, rfl⟩
      have HYB := Aside0.mk (show ∀ x ∈ ys, 0 ≤ x ∧ x ≤ 255 by rw [hys]; exact fun x hx => HBY.out x (List.mem_of_mem_drop (List.mem_of_mem_take hx)))
      have HYN := Aside0.mk (show numsS own (i + 1) = numsS own i ++ [numP ys] by rw [hys]; exact numsS_succ own i)
      have hyl : ys.length ≤ 4 := by rw [hys, HV.out.2.1]; exact HV.out.2.2
      rw [← hys] at hc1 HC1 ⊢
      obtain ⟨yn, hyn⟩ : ∃ yn, yn = ys.length := ⟨_, rfl⟩
      have hu := unfix_any A1 c1 ys HC1.out hc1 HYB.out
      rw [← hyn] at hu hc1 ⊢
      obtain ⟨u1, hu1⟩ : ∃ z, z = (unfixP ys).1 := ⟨_, rfl⟩
      obtain ⟨u2, hu2⟩ : ∃ z, z = (unfixP ys).2 := ⟨_, rfl⟩
      rw [← hu1, ← hu2] at hu
      have HNP := Aside0.mk (show numP ys = if u2 ≠ 0 then -1 else u1 by unfold numP; rw [← hu1, ← hu2])
      have HU := Aside0.mk hu
      clear hu hu1 hu2 hys hyl hyn
      go_wp2_with fail
      refine HU.out.mono ?_
      clear HU
      rintro e w2 ⟨rfl, b2⟩
      have HO2 := Aside0.mk (HO1.out.trans (Only.of_below b2))
      have HR2 := Aside0.mk (Kd.R_below HR1.out b2)
      have HP2 := Aside0.mk (HP1.out.only (b := 0) b2)
      clear b2 HO1 HR1 HP1 HC1
      by_cases h2 : u2 = 0
      · subst h2
        have hnp := HNP.out
        simp only [ne_eq, not_true_eq_false, if_false] at hnp
        have HNQ := Aside0.mk (show numsS own (i + 1) = numsS own i ++ [u1] by rw [HYN.out, hnp])
        clear hnp HNP
        have HIL := Aside0.mk hi
        clear hi hlt
        go_wp2_with ((with_reducible refine gate_builtin (b := .append) (xs := #[.tmp 25, .tmp 27]) rfl ?_); at_builtin; refine Hid.out ?_)
        refine Lib.hid ?_
        obtain ⟨w3, hw3⟩ : ∃ w3, w3 = w2.alloc (.cells #[.int .i64 u1] 3) := ⟨_, rfl⟩
        have hb3 : Below w2.heap.size w2 w3 := by rw [hw3]; exact (Below.refl _ _).alloc (Nat.le_refl _) _
        have hn3 : w3.heap[w2.heap.size]? = some (.cells (([u1] : List Int).map (Value.int .i64)).toArray 3 (0, 0)) := by rw [hw3]; exact heap_alloc_new w2 _
        rw [← hw3]
        have HN3 := Aside0.mk (rowI hn3 (by simp))
        have HO3 := Aside0.mk (HO2.out.trans (Only.of_below hb3))
        have HR3 := Aside0.mk (Kd.R_below HR2.out hb3)
        have HP3 := Aside0.mk (HP2.out.only (b := 0) hb3)
        clear hw3 hb3 hn3 HO2 HR2 HP2
        refine Kd.R_append_rows (Kd.int .i64) (Rr := (Kd.int .i64).K w3) (w0 := w3) w.heap.size rfl (.tmp 25) (.tmp 27) 37 3 (.int .i64 0) 8 rfl Try.underlying37 infoI64 rfl (by decide) (by omega) (.slice A' i c') (numsS own i) [u1] _ _ _ (fun _ => True) (fun _ => False) rfl rfl HR3.out HN3.out (fun x cs h => h) (fun _ hk => hk.elim) (fun _ _ => trivial) (Below.refl _ _) HO3.out.size (by rw [numsS_len]; have := HI.out; simp; omega) ?_
        intro v4 w4 ho4 hb4 hg4 _
        have HO4 := Aside0.mk (show Only cb w w4 from only_trans' HO3.out hb4)
        have HP4 := Aside0.mk (pc_kept HP3.out (fun k cs t ht hk => (hg4.block k (blk_lt hk) (Kd.R_ne HR3.out hk (Ne.symm ht))).trans hk))
        have HQ4 := Aside0.mk (show Kd.R (Kd.int .i64) 3 w4 w.heap.size (fun _ => True) v4 (numsS own (i + 1)) by rw [HNQ.out]; exact ho4)
        clear ho4 hb4 hg4 HO3 HP3 HR3 HN3
        obtain ⟨A4, c4, rfl⟩ := Kd.R_slice HQ4.out
        have hl4 := numsS_len own (i + 1)
        rw [hl4] at HQ4 ⊢
        have hi9 : wrap64 ((i : Int) + 1) = ((i + 1 : Nat) : Int) := by have := HI.out; unfold wrap64; omega
        clear hl4
        go_wp2_with fail
        go_roundg (gk - 1)
        case measure => have := HI.out; have := HIL.out; omega
        case rel => exact ⟨i + 1, A4, c4, ⟨by have := HI.out; have := HIL.out; omega⟩, by first | rfl | (rw [hi9]; rfl) | go_num, rfl, HQ4, HP4, HO4⟩
      · have h2b : (u2 == 0) = false := by simpa using h2
        have hnp := HNP.out
        rw [if_pos h2] at hnp
        have HNQ := Aside0.mk (show numsS own (i + 1) = numsS own i ++ [-1] by rw [HYN.out, hnp])
        clear hnp HNP
        have HIL := Aside0.mk hi
        clear hi hlt
        go_wp2_with ((with_reducible refine gate_builtin (b := .append) (xs := #[.tmp 25, .tmp 27]) rfl ?_); at_builtin; refine Hid.out ?_)
        refine Lib.hid ?_
        obtain ⟨w3, hw3⟩ : ∃ w3, w3 = w2.alloc (.cells #[.int .i64 (-1)] 3) := ⟨_, rfl⟩
        have hb3 : Below w2.heap.size w2 w3 := by rw [hw3]; exact (Below.refl _ _).alloc (Nat.le_refl _) _
        have hn3 : w3.heap[w2.heap.size]? = some (.cells (([(-1)] : List Int).map (Value.int .i64)).toArray 3 (0, 0)) := by rw [hw3]; exact heap_alloc_new w2 _
        rw [← hw3]
        have HN3 := Aside0.mk (rowI hn3 (by simp))
        have HO3 := Aside0.mk (HO2.out.trans (Only.of_below hb3))
        have HR3 := Aside0.mk (Kd.R_below HR2.out hb3)
        have HP3 := Aside0.mk (HP2.out.only (b := 0) hb3)
        clear hw3 hb3 hn3 HO2 HR2 HP2
        refine Kd.R_append_rows (Kd.int .i64) (Rr := (Kd.int .i64).K w3) (w0 := w3) w.heap.size rfl (.tmp 25) (.tmp 27) 37 3 (.int .i64 0) 8 rfl Try.underlying37 infoI64 rfl (by decide) (by omega) (.slice A' i c') (numsS own i) [(-1)] _ _ _ (fun _ => True) (fun _ => False) rfl rfl HR3.out HN3.out (fun x cs h => h) (fun _ hk => hk.elim) (fun _ _ => trivial) (Below.refl _ _) HO3.out.size (by rw [numsS_len]; have := HI.out; simp; omega) ?_
        intro v4 w4 ho4 hb4 hg4 _
        have HO4 := Aside0.mk (show Only cb w w4 from only_trans' HO3.out hb4)
        have HP4 := Aside0.mk (pc_kept HP3.out (fun k cs t ht hk => (hg4.block k (blk_lt hk) (Kd.R_ne HR3.out hk (Ne.symm ht))).trans hk))
        have HQ4 := Aside0.mk (show Kd.R (Kd.int .i64) 3 w4 w.heap.size (fun _ => True) v4 (numsS own (i + 1)) by rw [HNQ.out]; exact ho4)
        clear ho4 hb4 hg4 HO3 HP3 HR3 HN3
        obtain ⟨A4, c4, rfl⟩ := Kd.R_slice HQ4.out
        have hl4 := numsS_len own (i + 1)
        rw [hl4] at HQ4 ⊢
        have hi9 : wrap64 ((i : Int) + 1) = ((i + 1 : Nat) : Int) := by have := HI.out; unfold wrap64; omega
        clear hl4
        go_wp2_with fail
        go_roundg (gk - 1)
        case measure => have := HI.out; have := HIL.out; omega
        case rel => exact ⟨i + 1, A4, c4, ⟨by have := HI.out; have := HIL.out; omega⟩, by first | rfl | (rw [hi9]; rfl) | go_num, rfl, HQ4, HP4, HO4⟩
    · have hi5 : i = 5 := by have := HI.out; omega
      subst hi5
      clear hi
      go_wp2_with fail
      go_ret
      exact ⟨A', c', rfl, HR.out, HP.out, HO.out⟩
end Sect
end Go.Proofs.Ytopfjmeejpamjaa
end
section
namespace Go.Reg
set_option linter.unusedVariables false
set_option linter.unusedSimpArgs false
open Go
variable {P : Program} {ops : Array Oper} {md : Region.Mode} {C : World → Prop} {Q : Act → World → Prop} {ks : Nat → Kind}
theorem past_w {i k : Nat} {oi ok : Oper} (hi : ops[i]? = some oi) (hk : ops[k]? = some ok) (hsel : ∀ (j : Nat) (o : Oper) cs b, ops[j]? = some o → o.op ≠ .select cs b) (hki : k ≠ i) (hap : oi.apart ops ok = true)
    {CC : World → Prop} (hCC : ∀ w', C w' → CC w') {fuel : Nat} {listed : Array Bool} {a : Act} {w : World}
    (hfrom : ∀ (K : Bool → Act → World → Prop) a' w', opA P ops C ks true k K a' w' → ∃ u, YC P ops CC ok u a' ∧ K true (a'.put ok.dst u) w')
    (hrk : k ∈ Region.ready md ops listed) {u : Value} (hu : YC P ops CC ok u a)
    (H : oi.wp P a w (fun a' w' => cm C true w' ∧ wpA P md ops C ks Q (fuel + 1) (listed.setIfInBounds i true) true a' w') NoX) :
    oi.wp P (a.put ok.dst u) w (fun a' w' => cm C true w' ∧ wpA P md ops C ks Q fuel ((listed.setIfInBounds k true).setIfInBounds i true) true a' w') NoX := by
  obtain ⟨e1, e2, e3⟩ := Oper.apart_spec hap
  have hsi := fun cs b => hsel i oi cs b hi
  have hsk := fun cs b => hsel k ok cs b hk
  have fin : ∀ a2 w2, Out oi a a2 → cm C true w2 ∧ wpA P md ops C ks Q (fuel + 1) (listed.setIfInBounds i true) true a2 w2 → cm C true w2 ∧ wpA P md ops C ks Q fuel ((listed.setIfInBounds k true).setIfInBounds i true) true (a2.put ok.dst u) w2 := fun a2 w2 ho2 ⟨hc2, h2⟩ => by
    refine ⟨hc2, ?_⟩
    obtain ⟨u', hy', hk'⟩ := hfrom _ _ _ (h2.2 k (ready_mono hrk hki))
    have hua := hu.same (out_exec ho2 hsk e1) (out_wanted ho2 e1)
    have hcc := hCC w2 (hc2 rfl)
    have : u' = u := hua.det hcc hcc hy'
    subst this
    rw [Array.setIfInBounds_comm _ _ hki]
    exact hk'
  refine wp_to (execOp_put oi hsi a ok.dst u e3) H (fun v w2 h2 => ?_) (fun d w2 h2 => ?_)
  · rw [← Act.put_comm _ v u (fun d hd he => e2 d hd he)]
    exact fin _ _ (.inl ⟨_, rfl⟩) h2
  · rw [Act.put_defers, ← Act.put_comm _ undef u (fun d hd he => e2 d hd he)]
    exact fin _ _ (.inr ⟨_, rfl⟩) h2
theorem fork_ww {i j : Nat} {oi oj : Oper} {Di Dj : List Nat} (hi : ops[i]? = some oi) (hj : ops[j]? = some oj) (hij : i ≠ j) (hki : ks i = .w) (hkj : ks j = .w) (hsel : ∀ (j : Nat) (o : Oper) cs b, ops[j]? = some o → o.op ≠ .select cs b) :
    ∀ (fuel : Nat) (listed : Array Bool) (a : Act) (w : World), C w → Waits md ops listed i Di → Waits md ops listed j Dj →
      (∀ k ok, ops[k]? = some ok → k ≠ i → k ≠ j → k ∉ Di → k ∉ Dj → listed.getD k true = false → oi.apart ops ok = true ∧ oj.apart ops ok = true ∧ (ks k = .p ∨ ks k = .s)) →
      i ∈ Region.ready md ops listed → j ∈ Region.ready md ops listed → Region.wanted oi (yielded ops a.tmps) = true → Region.wanted oj (yielded ops a.tmps) = true →
      oi.wp P a w (fun a' w' => cm C true w' ∧ wpA P md ops C ks Q fuel (listed.setIfInBounds i true) true a' w') NoX →
      oj.wp P a w (fun a' w' => cm C true w' ∧ wpA P md ops C ks Q fuel (listed.setIfInBounds j true) true a' w') NoX → wpA P md ops C ks Q (fuel + 1) listed true a w := by
  have own : ∀ (x : Nat) (ox : Oper) (K : Bool → Act → World → Prop) (a : Act) (w : World), ops[x]? = some ox → ks x = .w → Region.wanted ox (yielded ops a.tmps) = true → ox.wp P a w (fun a' w' => cm C true w' ∧ K true a' w') NoX → opA P ops C ks true x K a w := fun x ox K a w hx hkx hw h => by
    unfold opA
    simp only [hx, hw, if_true, hkx]
    exact h
  intro fuel
  induction fuel with
  | zero =>
    intro listed a w hC hDi hDj _ hri hrj hwi hwj Hi Hj
    refine ⟨fun h => (by rw [h] at hri; cases hri), fun k hk => ?_⟩
    by_cases hki' : k = i
    · subst hki'; exact own _ _ _ _ _ hi hki hwi Hi
    · obtain ⟨a1, w1, _, _, h1⟩ := wp_exists Hi
      have := ready_mono hk hki'
      rw [h1.1] at this
      cases this
  | succ fuel ih =>
    intro listed a w hC hDi hDj hfree hri hrj hwi hwj Hi Hj
    refine ⟨fun h => (by rw [h] at hri; cases hri), fun k hk => ?_⟩
    by_cases hke : k = i
    · subst hke; exact own _ _ _ _ _ hi hki hwi Hi
    by_cases hkf : k = j
    · subst hkf; exact own _ _ _ _ _ hj hkj hwj Hj
    obtain ⟨hkun, ok, hok, hall⟩ := mem_ready.1 hk
    have hkDi := hDi.not_ready (mem_ready.1 hri).1 hk
    have hkDj := hDj.not_ready (mem_ready.1 hrj).1 hk
    obtain ⟨hapi, hapj, hkk⟩ := hfree k ok hok hke hkf hkDi hkDj hkun
    obtain ⟨e1, e2, e3⟩ := Oper.apart_spec hapi
    obtain ⟨f1, f2, f3⟩ := Oper.apart_spec hapj
    have hsk := fun cs b => hsel k ok cs b hok
    have hfree' : ∀ x ox, ops[x]? = some ox → x ≠ i → x ≠ j → x ∉ Di → x ∉ Dj → (listed.setIfInBounds k true).getD x true = false → oi.apart ops ox = true ∧ oj.apart ops ox = true ∧ (ks x = .p ∨ ks x = .s) := fun x ox hx h1 h2 h3 h4 hun => by
      refine hfree x ox hx h1 h2 h3 h4 ?_
      by_cases hkx : k = x
      · subst hkx; exact hkun
      · rw [getD_set_ne true hkx] at hun; exact hun
    obtain ⟨CC, hCC, hfrom, hto⟩ : ∃ CC : World → Prop, (∀ w', C w' → CC w') ∧
        (∀ (K : Bool → Act → World → Prop) a' w', opA P ops C ks true k K a' w' → ∃ u, YC P ops CC ok u a' ∧ K true (a'.put ok.dst u) w') ∧
        (∀ (K : Bool → Act → World → Prop) a' w' u, YC P ops CC ok u a' → K true (a'.put ok.dst u) w' → opA P ops C ks true k K a' w') := by
      rcases hkk with hkk | hkk
      · refine ⟨any, fun _ _ => trivial, fun K a' w' h => ?_, fun K a' w' u hu h => ?_⟩
        · unfold opA at h
          simp only [hok, hkk] at h
          by_cases hwk : Region.wanted ok (yielded ops a'.tmps) = true
          · rw [if_pos hwk] at h
            obtain ⟨u, hu, hn⟩ := h
            exact ⟨u, .inl ⟨hwk, hu⟩, hn⟩
          · rw [if_neg hwk] at h
            exact ⟨undef, .inr ⟨by simpa using hwk, rfl⟩, h⟩
        · unfold opA
          simp only [hok, hkk]
          rcases hu with ⟨hwk, hu⟩ | ⟨hwk, rfl⟩
          · rw [if_pos hwk]
            exact ⟨u, hu, h⟩
          · rw [if_neg (by rw [hwk]; simp)]
            exact h
      · refine ⟨C, fun _ h => h, fun K a' w' h => ?_, fun K a' w' u hu h => ?_⟩
        · unfold opA at h
          simp only [hok, hkk] at h
          by_cases hwk : Region.wanted ok (yielded ops a'.tmps) = true
          · rw [if_pos hwk] at h
            obtain ⟨_, u, hu, hn⟩ := h
            exact ⟨u, .inl ⟨hwk, hu⟩, hn⟩
          · rw [if_neg hwk] at h
            exact ⟨undef, .inr ⟨by simpa using hwk, rfl⟩, h⟩
        · unfold opA
          simp only [hok, hkk]
          rcases hu with ⟨hwk, hu⟩ | ⟨hwk, rfl⟩
          · rw [if_pos hwk]
            exact ⟨rfl, u, hu, h⟩
          · rw [if_neg (by rw [hwk]; simp)]
            exact h
    obtain ⟨a1, w1, ho1, hc1, h1⟩ := wp_exists Hi
    obtain ⟨u, hu, _⟩ := hfrom _ _ _ (h1.2 k (ready_mono hk hke))
    have hu' : YC P ops CC ok u a := hu.same (out_exec ho1 hsk e1).symm (out_wanted ho1 e1).symm
    refine hto _ _ _ u hu' ?_
    refine ih _ _ w hC (hDi.step hkDi) (hDj.step hkDj) hfree' (ready_mono hri (Ne.symm hke)) (ready_mono hrj (Ne.symm hkf)) ?_ ?_ ?_ ?_
    · rw [wanted_put oi a ok.dst u e3]; exact hwi
    · rw [wanted_put oj a ok.dst u f3]; exact hwj
    · exact past_w hi hok hsel hke hapi hCC hfrom hk hu' Hi
    · exact past_w hj hok hsel hkf hapj hCC hfrom hk hu' Hj
def pick (ops : Array Oper) (ord : List Nat) : List Oper := ord.filterMap (ops[·]?)
def ordB (md : Region.Mode) (ops : Array Oper) (ks : Nat → Kind) : List Nat → Array Bool → Bool
  | [], listed => (Region.ready md ops listed).isEmpty
  | k :: ord, listed => (Region.ready md ops listed).contains k && freeK md ops ks listed k (dset md ops k) && ordB md ops ks ord (listed.setIfInBounds k true)
theorem wpA_ord (hs : Region.noSelect ops = true) : ∀ (ord : List Nat) (listed : Array Bool) (m : Bool) (a : Act) (w : World), cm C m w →
    ordB md ops ks ord listed = true → wpLex P ops C Q (pick ops ord) (ord.map ks) m a w → wpA P md ops C ks Q ord.length listed m a w
  | [], _, _, _, _, _, hB, h => ⟨by simpa [ordB] using hB, h⟩
  | k :: ord, listed, m, a, w, hC, hB, h => by
    simp only [ordB, Bool.and_eq_true] at hB
    obtain ⟨⟨hr, hf⟩, hB'⟩ := hB
    have hsel := Region.noSelect_spec hs
    have hr' : k ∈ Region.ready md ops listed := by simpa using hr
    obtain ⟨_, o, h0, _⟩ := mem_ready.1 hr'
    have hpick : pick ops (k :: ord) = o :: pick ops ord := by simp [pick, h0]
    rw [hpick, List.map_cons] at h
    have hW := free_waits h0 hf
    have hA := free_apart h0 hf
    have next : ∀ m' a' w', cm C m' w' → wpLex P ops C Q (pick ops ord) (ord.map ks) m' a' w' → wpA P md ops C ks Q ord.length (listed.setIfInBounds k true) m' a' w' := fun m' a' w' hc hh => wpA_ord hs ord _ m' a' w' hc hB' hh
    simp only [wpLex, List.headD_cons, List.tail_cons] at h
    simp only [List.length_cons]
    by_cases hw : Region.wanted o (yielded ops a.tmps) = true
    · rw [if_pos hw] at h
      cases hkk : ks k with
      | p =>
        rw [hkk] at h
        obtain ⟨v, hv, hn⟩ := h
        refine first_s (Y := YC P ops any o v) (A := fun _ => True) (v := v) (D := dset md ops k) h0 (fun _ _ hy he hw => hy.same he hw) hsel (fun K m a w _ hc hy hk => ?_) ord.length listed m a w trivial hC hW (fun j oj hj hne hjD hun => ⟨(hA j oj hj hne hjD hun).1, fun _ => trivial⟩) hr' (.inl ⟨hw, hv⟩) (next _ _ _ hC hn)
        unfold opA
        simp only [h0, hkk]
        rcases hy with ⟨hwj, hu⟩ | ⟨hwj, rfl⟩
        · rw [if_pos hwj]
          exact ⟨v, hu, hk⟩
        · rw [if_neg (by rw [hwj]; simp)]
          exact hk
      | s =>
        rw [hkk] at h
        obtain ⟨hmt, v, hv, hn⟩ := h
        refine first_s (Y := YC P ops C o v) (A := fun m => m = true) (v := v) (D := dset md ops k) h0 (fun _ _ hy he hw => hy.same he hw) hsel (fun K m a w hm hc hy hk => ?_) ord.length listed m a w hmt hC hW (fun j oj hj hne hjD hun => ?_) hr' (.inl ⟨hw, hv⟩) (next _ _ _ hC hn)
        · unfold opA
          simp only [h0, hkk]
          rcases hy with ⟨hwj, hu⟩ | ⟨hwj, rfl⟩
          · rw [if_pos hwj]
            exact ⟨hm, v, hu, hk⟩
          · rw [if_neg (by rw [hwj]; simp)]
            exact hk
        · have h3 := hA j oj hj hne hjD hun
          refine ⟨h3.1, fun hx => ?_⟩
          have h4 := h3.2
          rw [hkk, hx] at h4
          cases h4
      | w =>
        rw [hkk] at h
        refine first_w (D := dset md ops k) h0 hsel (fun m => m) (fun m => .inl ⟨hkk, rfl⟩) ord.length listed m a w hC hW (fun j oj hj hne hjD hun => ?_) hr' hw ?_
        · have h3 := hA j oj hj hne hjD hun
          refine ⟨h3.1, ?_⟩
          have h4 := h3.2
          rw [hkk] at h4
          cases hkj : ks j with
          | p => exact .inl rfl
          | s => exact .inr ⟨rfl, hkk⟩
          | w => rw [hkj] at h4; cases h4
          | x => rw [hkj] at h4; cases h4
        · exact wp_any_mono h fun a' w' ⟨hc, hh⟩ => ⟨hc, next _ _ _ hc hh⟩
      | x =>
        rw [hkk] at h
        refine first_w (D := dset md ops k) h0 hsel (fun _ => false) (fun m => .inr ⟨hkk, rfl⟩) ord.length listed m a w hC hW (fun j oj hj hne hjD hun => ?_) hr' hw ?_
        · have h3 := hA j oj hj hne hjD hun
          refine ⟨h3.1, ?_⟩
          have h4 := h3.2
          rw [hkk] at h4
          cases hkj : ks j with
          | p => exact .inl rfl
          | s => rw [hkj] at h4; cases h4
          | w => rw [hkj] at h4; cases h4
          | x => rw [hkj] at h4; cases h4
        · exact wp_any_mono h fun a' w' hh => ⟨(fun e => by cases e), next _ _ _ (fun e => by cases e) hh⟩
    · rw [if_neg hw] at h
      have hw' : Region.wanted o (yielded ops a.tmps) = false := by simpa using hw
      refine first_s (Y := fun a => Region.wanted o (yielded ops a.tmps) = false) (A := fun _ => True) (v := undef) (D := dset md ops k) h0 (fun _ _ hy _ hw => hw.trans hy) hsel (fun K m a w _ hc hy hk => ?_) ord.length listed m a w trivial hC hW (fun j oj hj hne hjD hun => ⟨(hA j oj hj hne hjD hun).1, fun _ => trivial⟩) hr' hw' (next _ _ _ hC h)
      unfold opA
      simp only [h0]
      rw [if_neg (by rw [hy]; simp)]
      exact hk
def freeBut (md : Region.Mode) (ops : Array Oper) (ks : Nat → Kind) (listed : Array Bool) (k j : Nat) (Dk Dj : List Nat) : Bool :=
  match ops[k]? with
  | none => false
  | some o =>
    Dk.all (fun x => !listed.getD x true && hasEdge md ops k Dk x) &&
    (List.range ops.size).all fun x => x == k || x == j || listed.getD x true || Dk.contains x || Dj.contains x ||
      (match ops[x]? with
       | none => true
       | some ox => o.apart ops ox && (ks x == .p || ks x == .s))
def forkB (md : Region.Mode) (ops : Array Oper) (ks : Nat → Kind) (k j : Nat) (t1 t2 : List Nat) : List Nat → Array Bool → Bool
  | [], listed => k != j && (Region.ready md ops listed).contains k && (Region.ready md ops listed).contains j && (ks k == .w) && (ks j == .w) && freeBut md ops ks listed k j (dset md ops k) (dset md ops j) && freeBut md ops ks listed j k (dset md ops j) (dset md ops k) &&
      ordB md ops ks t1 (listed.setIfInBounds k true) && ordB md ops ks t2 (listed.setIfInBounds j true) && (t1.length == t2.length)
  | x :: pre, listed => (Region.ready md ops listed).contains x && (ks x == .p || ks x == .s) && freeK md ops ks listed x (dset md ops x) && forkB md ops ks k j t1 t2 pre (listed.setIfInBounds x true)
theorem freeBut_spec {k j : Nat} {ok : Oper} {listed : Array Bool} {Dk Dj : List Nat} (hk : ops[k]? = some ok) (h : freeBut md ops ks listed k j Dk Dj = true) :
    Waits md ops listed k Dk ∧ ∀ x ox, ops[x]? = some ox → x ≠ k → x ≠ j → x ∉ Dk → x ∉ Dj → listed.getD x true = false → ok.apart ops ox = true ∧ (ks x = .p ∨ ks x = .s) := by
  simp only [freeBut, hk, Bool.and_eq_true, List.all_eq_true, List.mem_range] at h
  refine ⟨fun x hx => ?_, fun x ox hx h1 h2 h3 h4 h5 => ?_⟩
  · have h1 := h.1 x hx
    simp only [Bool.not_eq_true'] at h1
    refine ⟨h1.1, ?_⟩
    have h2 := h1.2
    unfold hasEdge at h2
    split at h2
    · rename_i oj hoj
      obtain ⟨e, he, hb⟩ := Array.any_eq_true'.1 h2
      simp only [Bool.and_eq_true, Bool.or_eq_true, beq_iff_eq, List.contains_iff_mem] at hb
      exact ⟨oj, hoj, e, he, hb.1, hb.2⟩
    · cases h2
  · have h6 := h.2 x (Array.getElem?_eq_some_iff.1 hx).1
    simpa only [hx, Bool.or_eq_true, beq_iff_eq, h1, h2, false_or, h5, Bool.false_eq_true, List.contains_iff_mem, h3, h4, Bool.and_eq_true] using h6
theorem wpA_fork (hs : Region.noSelect ops = true) {k j : Nat} {t1 t2 : List Nat} : ∀ (pre : List Nat) (listed : Array Bool) (a : Act) (w : World), C w →
    forkB md ops ks k j t1 t2 pre listed = true →
    wpLex P ops C (fun a' w' => wpLex P ops C Q (pick ops (k :: t1)) ((k :: t1).map ks) true a' w' ∧ wpLex P ops C Q (pick ops (j :: t2)) ((j :: t2).map ks) true a' w' ∧ (∀ o, ops[k]? = some o ∨ ops[j]? = some o → Region.wanted o (yielded ops a'.tmps) = true)) (pick ops pre) (pre.map ks) true a w →
    wpA P md ops C ks Q (pre.length + (t1.length + 1)) listed true a w
  | [], listed, a, w, hC, hB, h => by
    simp only [forkB, Bool.and_eq_true] at hB
    obtain ⟨⟨⟨⟨⟨⟨⟨⟨⟨hne, hrk⟩, hrj⟩, hkk⟩, hkj⟩, hfk⟩, hfj⟩, hb1⟩, hb2⟩, hlen⟩ := hB
    have hsel := Region.noSelect_spec hs
    have hrk' : k ∈ Region.ready md ops listed := by simpa using hrk
    have hrj' : j ∈ Region.ready md ops listed := by simpa using hrj
    obtain ⟨_, ok, hok, _⟩ := mem_ready.1 hrk'
    obtain ⟨_, oj, hoj, _⟩ := mem_ready.1 hrj'
    have hkk' : ks k = .w := by simpa using hkk
    have hkj' : ks j = .w := by simpa using hkj
    obtain ⟨hWk, hAk⟩ := freeBut_spec hok hfk
    obtain ⟨hWj, hAj⟩ := freeBut_spec hoj hfj
    have hlen' : t1.length = t2.length := by simpa using hlen
    simp only [pick, List.filterMap_nil, List.map_nil, wpLex] at h
    obtain ⟨h1, h2, hw⟩ := h
    have hwk := hw ok (.inl hok)
    have hwj := hw oj (.inr hoj)
    have p1 : pick ops (k :: t1) = ok :: pick ops t1 := by simp [pick, hok]
    have p2 : pick ops (j :: t2) = oj :: pick ops t2 := by simp [pick, hoj]
    change wpLex P ops C Q (pick ops (k :: t1)) _ _ _ _ at h1
    change wpLex P ops C Q (pick ops (j :: t2)) _ _ _ _ at h2
    rw [p1, List.map_cons, hkk'] at h1
    rw [p2, List.map_cons, hkj'] at h2
    simp only [wpLex, List.headD_cons, List.tail_cons] at h1 h2
    rw [if_pos hwk] at h1
    rw [if_pos hwj] at h2
    have hne' : k ≠ j := by simpa using hne
    simp only [List.length_nil, Nat.zero_add]
    refine fork_ww (Di := dset md ops k) (Dj := dset md ops j) hok hoj hne' hkk' hkj' hsel t1.length listed a w hC hWk hWj (fun x ox hx g1 g2 g3 g4 g5 => ⟨(hAk x ox hx g1 g2 g3 g4 g5).1, (hAj x ox hx g2 g1 g4 g3 g5).1, (hAk x ox hx g1 g2 g3 g4 g5).2⟩) hrk' hrj' hwk hwj ?_ ?_
    · exact wp_any_mono h1 fun a' w' ⟨hc, hh⟩ => ⟨hc, wpA_ord hs t1 _ _ _ _ hc hb1 hh⟩
    · refine wp_any_mono h2 fun a' w' ⟨hc, hh⟩ => ⟨hc, ?_⟩
      rw [hlen']
      exact wpA_ord hs t2 _ _ _ _ hc hb2 hh
  | x :: pre, listed, a, w, hC, hB, h => by
    simp only [forkB, Bool.and_eq_true] at hB
    obtain ⟨⟨⟨hr, hkx⟩, hf⟩, hB'⟩ := hB
    have hsel := Region.noSelect_spec hs
    have hr' : x ∈ Region.ready md ops listed := by simpa using hr
    obtain ⟨_, o, h0, _⟩ := mem_ready.1 hr'
    have hpick : pick ops (x :: pre) = o :: pick ops pre := by simp [pick, h0]
    have hm : (x :: pre).map ks = ks x :: pre.map ks := rfl
    rw [hpick, hm] at h
    have hW := free_waits h0 hf
    have hA := free_apart h0 hf
    have next : ∀ a', wpLex P ops C (fun a' w' => wpLex P ops C Q (pick ops (k :: t1)) ((k :: t1).map ks) true a' w' ∧ wpLex P ops C Q (pick ops (j :: t2)) ((j :: t2).map ks) true a' w' ∧ (∀ o, ops[k]? = some o ∨ ops[j]? = some o → Region.wanted o (yielded ops a'.tmps) = true)) (pick ops pre) (pre.map ks) true a' w → wpA P md ops C ks Q (pre.length + (t1.length + 1)) (listed.setIfInBounds x true) true a' w := fun a' hh => wpA_fork hs pre _ a' w hC hB' hh
    simp only [wpLex, List.headD_cons, List.tail_cons] at h
    rw [List.length_cons, show pre.length + 1 + (t1.length + 1) = pre.length + (t1.length + 1) + 1 by omega]
    by_cases hw : Region.wanted o (yielded ops a.tmps) = true
    · rw [if_pos hw] at h
      have hkx' : ks x = .p ∨ ks x = .s := by simpa using hkx
      rcases hkx' with hkk | hkk
      · rw [hkk] at h
        obtain ⟨v, hv, hn⟩ := h
        refine first_s (Y := YC P ops any o v) (A := fun _ => True) (v := v) (D := dset md ops x) h0 (fun _ _ hy he hw => hy.same he hw) hsel (fun K m a w _ hc hy hk => ?_) _ listed true a w trivial (fun _ => hC) hW (fun j oj hj hne hjD hun => ⟨(hA j oj hj hne hjD hun).1, fun _ => trivial⟩) hr' (.inl ⟨hw, hv⟩) (next _ hn)
        unfold opA
        simp only [h0, hkk]
        rcases hy with ⟨hwj, hu⟩ | ⟨hwj, rfl⟩
        · rw [if_pos hwj]
          exact ⟨v, hu, hk⟩
        · rw [if_neg (by rw [hwj]; simp)]
          exact hk
      · rw [hkk] at h
        obtain ⟨hmt, v, hv, hn⟩ := h
        refine first_s (Y := YC P ops C o v) (A := fun m => m = true) (v := v) (D := dset md ops x) h0 (fun _ _ hy he hw => hy.same he hw) hsel (fun K m a w hm hc hy hk => ?_) _ listed true a w rfl (fun _ => hC) hW (fun j oj hj hne hjD hun => ?_) hr' (.inl ⟨hw, hv⟩) (next _ hn)
        · unfold opA
          simp only [h0, hkk]
          rcases hy with ⟨hwj, hu⟩ | ⟨hwj, rfl⟩
          · rw [if_pos hwj]
            exact ⟨hm, v, hu, hk⟩
          · rw [if_neg (by rw [hwj]; simp)]
            exact hk
        · have h3 := hA j oj hj hne hjD hun
          refine ⟨h3.1, fun hx => ?_⟩
          have h4 := h3.2
          rw [hkk, hx] at h4
          cases h4
    · rw [if_neg hw] at h
      have hw' : Region.wanted o (yielded ops a.tmps) = false := by simpa using hw
      refine first_s (Y := fun a => Region.wanted o (yielded ops a.tmps) = false) (A := fun _ => True) (v := undef) (D := dset md ops x) h0 (fun _ _ hy _ hw => hw.trans hy) hsel (fun K m a w _ hc hy hk => ?_) _ listed true a w trivial (fun _ => hC) hW (fun j oj hj hne hjD hun => ⟨(hA j oj hj hne hjD hun).1, fun _ => trivial⟩) hr' hw' (next _ h)
      unfold opA
      simp only [h0]
      rw [if_neg (by rw [hy]; simp)]
      exact hk
theorem region_fork {id : Nat} {Q : Exit → Act → World → Prop} {a : Act} {w : World} {l : List Oper} (C0 : World → Prop) (kl : List Kind) (pre : List Nat) (k j : Nat) (t1 t2 : List Nat) (hm : P.follows .mixedOrders = true)
    (hB : (Region.noSelect l.toArray && forkB .any l.toArray (fun i => kl.getD i .p) k j t1 t2 pre (Array.replicate l.toArray.size false) && (pre.length + (t1.length + 1) == l.toArray.size)) = true)
    (hC : C0 w.drew) (h : Nonempty (In C0) → wpLex P l.toArray (fun w' => ∃ m : In C0, w' = m.w) (fun a' w' =>
      wpLex P l.toArray (fun w' => ∃ m : In C0, w' = m.w) (fun a' w' => Q .normal a' w') (pick l.toArray (k :: t1)) ((k :: t1).map fun i => kl.getD i .p) true a' w' ∧
      wpLex P l.toArray (fun w' => ∃ m : In C0, w' = m.w) (fun a' w' => Q .normal a' w') (pick l.toArray (j :: t2)) ((j :: t2).map fun i => kl.getD i .p) true a' w' ∧
      (∀ o, l.toArray[k]? = some o ∨ l.toArray[j]? = some o → Region.wanted o (yielded l.toArray a'.tmps) = true)) (pick l.toArray pre) (pre.map fun i => kl.getD i .p) true a w.drew) : (Code.region id l.toArray true).wp P Q a w := by
  simp only [Bool.and_eq_true, beq_iff_eq] at hB
  obtain ⟨⟨hB1, hB2⟩, hB3⟩ := hB
  refine wp_region_any hm (wpAny_of_A (C := fun w' => ∃ m : In C0, w' = m.w) (ks := fun i => kl.getD i .p) (Q := fun a' w' => Q .normal a' w') (fun _ _ h => h) _ _ true _ _ (fun _ => cls_mk hC) ?_)
  have := wpA_fork (md := .any) (Q := fun a' w' => Q .normal a' w') (ks := fun i => kl.getD i .p) hB1 pre (Array.replicate l.toArray.size false) a w.drew (cls_mk hC) hB2 (h ⟨⟨_, hC⟩⟩)
  rw [hB3] at this
  exact this
end Go.Reg
namespace Go.Reg
set_option linter.unusedVariables false
set_option linter.unusedSimpArgs false
open Go
variable {P : Program} {ops : Array Oper} {md : Region.Mode} {C : World → Prop} {Q : Act → World → Prop} {ks : Nat → Kind}
end Go.Reg
end
section
namespace Go.Proofs.Ytopfjmeejpamjaa
set_option linter.unusedVariables false
set_option linter.unusedSimpArgs false
set_option linter.ambiguousOpen false
open Go.RowKit Go.Proofs.YtopfjmeejpamjaaW.PrintWords Go.Proofs.YtopfjmeejpamjaaW.PrintLast Go.Proofs.YtopfjmeejpamjaaW.PrintMore
namespace Sect
open Go.Num Go.Crc Go.Proofs.Ytopfjmeejpamjaa.Cell
structure Sec where
  k : Int
  e : Int
  n : Int
  l : Int
  d : List Int
def zeroS : Sec := ⟨0, 0, 0, 0, []⟩
def sizeS (own : List Int) : Int := numP ((own.drop 1).take 1)
def rawS (own : List Int) : Sec := ⟨numP ((own.drop 0).take 1), numP ((own.drop 4).take 4), numP ((own.drop 8).take 4), numP ((own.drop 2).take 2), (own.drop 12).take (sizeS own).toNat⟩
def okS (own : List Int) : Bool := decide (sizeS own ≤ 48) && (secOk (rawS own).k (rawS own).e (rawS own).n (rawS own).l (rawS own).d && decide (maxL (own.drop (12 + (sizeS own).toNat)) = 0))
def getS (l : List Int) : Sec × Int := if l.length ≠ 64 then (zeroS, 11) else if (openP l).2 ≠ 0 then (zeroS, (openP l).2) else if okS (openP l).1 = true then (rawS (openP l).1, 0) else (zeroS, 5)
theorem unfix1 (l : List Int) (hl : l.length = 1) (hb : ∀ x ∈ l, 0 ≤ x ∧ x ≤ 255) : unfixP l = (unB l, 0) ∧ 0 ≤ unB l ∧ unB l ≤ 255 := by
  have h := unB_lt l hb
  rw [hl] at h
  have h2 : (256 : Int) ^ 1 = 256 := by decide
  rw [h2] at h
  refine ⟨?_, h.1, by omega⟩
  unfold unfixP
  rw [if_neg (by omega), if_neg (by omega)]
theorem nums5 (own : List Int) : numsS own 5 = [(rawS own).k, sizeS own, (rawS own).l, (rawS own).e, (rawS own).n] := rfl
theorem five_set {w : World} {b t : Nat} {a0 a1 a2 a3 a4 : Value} (h : w.heap[b]? = some (.cells #[a0, a1, a2, a3, a4] t (0, 0))) (v0 v1 v2 v3 v4 : Value) : (((((w.setCell ⟨b, 0, none⟩ v0).setCell ⟨b, 1, none⟩ v1).setCell ⟨b, 2, none⟩ v2).setCell ⟨b, 3, none⟩ v3).setCell ⟨b, 4, none⟩ v4).heap[b]? = some (.cells #[v0, v1, v2, v3, v4] t (0, 0)) := by
  have := blk_set (blk_set (blk_set (blk_set (blk_set h 0 v0) 1 v1) 2 v2) 3 v3) 4 v4
  rw [this]
  rfl
theorem five_below {w0 w : World} {base b : Nat} (h : Below base w0 w) (hb : base ≤ b) (v0 v1 v2 v3 v4 : Value) : Below base w0 (((((w.setCell ⟨b, 0, none⟩ v0).setCell ⟨b, 1, none⟩ v1).setCell ⟨b, 2, none⟩ v2).setCell ⟨b, 3, none⟩ v3).setCell ⟨b, 4, none⟩ v4) :=
  ((((h.setCell hb v0).setCell hb v1).setCell hb v2).setCell hb v3).setCell hb v4
theorem five_but {w : World} {b : Nat} (v0 v1 v2 v3 v4 : Value) : ∀ k, k ≠ b → (((((w.setCell ⟨b, 0, none⟩ v0).setCell ⟨b, 1, none⟩ v1).setCell ⟨b, 2, none⟩ v2).setCell ⟨b, 3, none⟩ v3).setCell ⟨b, 4, none⟩ v4).heap[k]? = w.heap[k]? := fun k hk => by
  rw [Below.heap_setCell _ _ _ _ hk, Below.heap_setCell _ _ _ _ hk, Below.heap_setCell _ _ _ _ hk, Below.heap_setCell _ _ _ _ hk, Below.heap_setCell _ _ _ _ hk]
structure GT (w0 w : World) (base cb : Nat) (bs : List Int) (bad : Bool) : Prop where
  below : Below w0.heap.size w0 w
  zero : w.heap[w0.heap.size]? = some (.cells #[.int .i64 0, .int .i64 0, .int .i64 0, .int .i64 0, .slice none 0 0] 69 (0, 0))
  pc : PC w base cb bs bad
  far : w0.heap.size < cb
  cur : cb < w.heap.size
theorem GT.only {w0 w w' : World} {base cb : Nat} {bs bs' : List Int} {bad bad' : Bool} (h : GT w0 w base cb bs bad) (f : Only cb w w') (p : PC w' base cb bs' bad') : GT w0 w' base cb bs' bad' :=
  ⟨h.below.trans (f.below (by have := h.far; omega) h.below.size), (f.block _ (blk_lt h.zero) (by have := h.far; omega)).trans h.zero, p, h.far, Nat.lt_of_lt_of_le h.cur f.size⟩
theorem GT.end_ {w0 w w' : World} {base cb : Nat} {bs : List Int} {bad : Bool} (h : GT w0 w base cb bs bad) (f : Only cb w w') : Below w0.heap.size w0 w' ∧ w'.heap[w0.heap.size]? = some (.cells #[.int .i64 0, .int .i64 0, .int .i64 0, .int .i64 0, .slice none 0 0] 69 (0, 0)) :=
  ⟨h.below.trans (f.below (by have := h.far; omega) h.below.size), (f.block _ (blk_lt h.zero) (by have := h.far; omega)).trans h.zero⟩
theorem GT.step {w0 w w' : World} {base cb : Nat} {bs : List Int} {bad : Bool} (h : GT w0 w base cb bs bad) (f : Below w.heap.size w w') : GT w0 w' base cb bs bad :=
  ⟨h.below.trans (f.mono h.below.size), (f.block _ (blk_lt h.zero)).trans h.zero, h.pc.only (b := 0) f, h.far, Nat.lt_of_lt_of_le h.cur f.size⟩
set_option maxHeartbeats 16000000 in
set_option maxRecDepth 100000 in
theorem get_no {w : World} (A : Option Addr) (c : Nat) (l : List Int) (hC : Kd.C (Kd.int .u8) w A l.length l) (hb : ∀ y ∈ l, 0 ≤ y ∧ y ≤ 255) (hc : l.length ≤ c) (hl : l.length ≤ 200000) (hno : l.length ≠ 64 ∨ (openP l).2 ≠ 0) :
    Calls Try.prog 31 #[.slice A l.length c] w fun r w' => r = .returned (.tuple #[.agg #[.int .i64 0, .int .i64 0, .int .i64 0, .int .i64 0, .slice none 0 0], .int .i64 (getS l).2]) ∧ Below w.heap.size w w' := by
  have HC := Aside0.mk hC
  have HBY := Aside0.mk hb
  clear hC hb
  obtain ⟨r, hr⟩ : ∃ r, r = (getS l).2 := ⟨_, rfl⟩
  rw [← hr]
  by_cases h64 : l.length ≠ 64
  · have HQ := Aside0.mk (show r = 11 by rw [hr]; unfold getS; rw [if_pos h64])
    have hne : ((l.length : Int) != 64) = true := by simp; omega
    clear hr hno
    go_enter Try.func31, Try.ntmps31
    go_wp2_with fail
    refine bodyPost_ret (results_ct rfl _ _ w.heap.size 69 #[.int .i64 0, .int .i64 0, .int .i64 0, .int .i64 0, .slice none 0 0] (0, 0) _ rfl (heap_alloc_new w _) Try.underlying69 rfl (by kernel_rfl)) rfl ?_
    exact ⟨by rw [HQ.out]; rfl, (Below.refl _ _).alloc (Nat.le_refl _) _⟩
  · have h2 : l.length = 64 := by omega
    have h12 : (openP l).2 = 12 := by
      rcases open_err l with h | h
      · rcases hno with hn | hn
        · exact absurd h2 hn
        · exact absurd h hn
      · exact h
    have HQ := Aside0.mk (show r = 12 by rw [hr]; unfold getS; rw [if_neg h64, if_pos (by rw [h12]; decide), h12])
    have HL := Aside0.mk h2
    have H12 := Aside0.mk h12
    rw [h2] at hc hl ⊢
    clear hr hno h64 h2 h12
    go_enter Try.func31, Try.ntmps31
    go_wp2_with fail
    obtain ⟨W, hW⟩ : ∃ W, W = w.alloc (.cells #[.int .i64 0, .int .i64 0, .int .i64 0, .int .i64 0, .slice none 0 0] 69) := ⟨_, rfl⟩
    have HB0 := Aside0.mk (show Below w.heap.size w W by rw [hW]; exact (Below.refl _ _).alloc (Nat.le_refl _) _)
    have HBX := Aside0.mk (show W.heap[w.heap.size]? = some (.cells #[.int .i64 0, .int .i64 0, .int .i64 0, .int .i64 0, .slice none 0 0] 69 (0, 0)) by rw [hW]; exact heap_alloc_new w _)
    rw [← hW]
    clear hW
    have hop := open_any A c l W (Kd.C_below HC.out HB0.out) HBY.out (by rw [HL.out]; omega) (by rw [HL.out]; omega)
    rw [HL.out, H12.out] at hop
    refine hop.mono ?_
    clear hop
    rintro e w1 ⟨v1, rfl, _, b1⟩
    have hbx := (b1.block _ (blk_lt HBX.out)).trans HBX.out
    have HB1 := Aside0.mk (HB0.out.trans (b1.mono HB0.out.size))
    have HX1 := Aside0.mk hbx
    have z0 : w1.cell? ⟨w.heap.size, 0, none⟩ = some (.int .i64 0) := cell_blk hbx
    have z1 : w1.cell? ⟨w.heap.size, 1, none⟩ = some (.int .i64 0) := cell_blk hbx
    have z2 : w1.cell? ⟨w.heap.size, 2, none⟩ = some (.int .i64 0) := cell_blk hbx
    have z3 : w1.cell? ⟨w.heap.size, 3, none⟩ = some (.int .i64 0) := cell_blk hbx
    have z4 : w1.cell? ⟨w.heap.size, 4, none⟩ = some (.slice none 0 0) := cell_blk hbx
    have f0 : w1.frozen? ⟨w.heap.size, 0, none⟩ = false := frozen_blk hbx
    have f1 : w1.frozen? ⟨w.heap.size, 1, none⟩ = false := frozen_blk hbx
    have f2 : w1.frozen? ⟨w.heap.size, 2, none⟩ = false := frozen_blk hbx
    have f3 : w1.frozen? ⟨w.heap.size, 3, none⟩ = false := frozen_blk hbx
    have f4 : w1.frozen? ⟨w.heap.size, 4, none⟩ = false := frozen_blk hbx
    clear b1 hbx
    go_wp2_with fail
    refine bodyPost_ret (results_ct rfl _ _ w.heap.size 69 #[.int .i64 0, .int .i64 0, .int .i64 0, .int .i64 0, .slice none 0 0] (0, 0) _ rfl (five_set HX1.out _ _ _ _ _) Try.underlying69 rfl (by kernel_rfl)) rfl ?_
    exact ⟨by rw [HQ.out]; rfl, five_below HB1.out (Nat.le_refl _) _ _ _ _ _⟩
theorem set1 {w4 w6 : World} {cb xb : Nat} (hO : Only cb w4 w6) (hx : w4.heap.size ≤ xb) (i : Nat) (v : Value) : Only cb w4 (w6.setCell ⟨xb, i, none⟩ v) :=
  ⟨hO.os, hO.tape, hO.output, by have := hO.size; simpa [World.setCell] using this, fun k hk hn => (Below.heap_setCell w6 ⟨xb, i, none⟩ v k (by show k ≠ xb; omega)).trans (hO.block k hk hn)⟩
theorem sets5 {w4 w6 : World} {cb xb : Nat} (hO : Only cb w4 w6) (hx : w4.heap.size ≤ xb) (v0 v1 v2 v3 v4 : Value) : Only cb w4 (((((w6.setCell ⟨xb, 0, none⟩ v0).setCell ⟨xb, 1, none⟩ v1).setCell ⟨xb, 2, none⟩ v2).setCell ⟨xb, 3, none⟩ v3).setCell ⟨xb, 4, none⟩ v4) :=
  set1 (set1 (set1 (set1 (set1 hO hx 0 v0) hx 1 v1) hx 2 v2) hx 3 v3) hx 4 v4
theorem pc_other {w w' : World} {base cb xb : Nat} {cs : Array Value} {bs : List Int} {bad : Bool} (h : PC w base cb bs bad) (hx : w.heap[xb]? = some (.cells cs 69 (0, 0))) (hb : ∀ k, k ≠ xb → w'.heap[k]? = w.heap[k]?) : PC w' base cb bs bad := by
  have hne : ∀ (k : Nat) (cs' : Array Value) (t : Nat), w.heap[k]? = some (.cells cs' t (0, 0)) → t ≠ 69 → k ≠ xb := fun k cs' t h ht e => by
    subst e
    rw [hx] at h
    cases h
    exact ht rfl
  unfold PC at *
  cases bad with
  | true => exact ⟨h.1, h.2.1, (hb _ (hne _ _ _ h.2.2 (by decide))).trans h.2.2⟩
  | false =>
    obtain ⟨g, off, c, all, sp, h⟩ := h
    exact ⟨g, off, c, all, sp, h.cbase, (hb _ (hne _ _ _ h.cells (by decide))).trans h.cells, (hb _ (hne _ _ _ h.row (by decide))).trans h.row, h.at_, h.room, h.few⟩
theorem R_other {w w' : World} {base xb t : Nat} {ok : Nat → Prop} {cs : Array Value} {v : Value} {xs : List Int} (h : Kd.R (Kd.int .u8) 5 w base ok v xs) (hx : w.heap[xb]? = some (.cells cs t (0, 0))) (ht : t ≠ 5) (hb : ∀ k, k ≠ xb → w'.heap[k]? = w.heap[k]?) : Kd.R (Kd.int .u8) 5 w' base ok v xs :=
  Kd.R_mono (Kd.R_step (Kd.R_bound h) (fun k hk hlt => hb k (fun e => by
    obtain ⟨_, _, _, q, hq, cells, hcl⟩ := hk
    rw [e, hx] at hcl
    cases hcl
    simp [Kd.int, Kd.scalar] at hq
    exact ht hq))) (fun _ hk => hk.1)
theorem R_oldS {w w' : World} {cb base q t : Nat} {v : Value} {xs : List Int} (h : Kd.R (Kd.int .u8) t w base (fun k => q ≤ k) v xs) (f : Only cb w w') (hb : cb < q) : Kd.R (Kd.int .u8) t w' base (fun k => q ≤ k) v xs :=
  Kd.R_step h (fun k hk hlt => f.block k hlt (by omega))
set_option maxHeartbeats 16000000 in
set_option maxRecDepth 100000 in
theorem get_yes {w : World} (A : Option Addr) (c : Nat) (l : List Int) (hC : Kd.C (Kd.int .u8) w A l.length l) (hb : ∀ y ∈ l, 0 ≤ y ∧ y ≤ 255) (hc : l.length ≤ c) (h64 : l.length = 64) (h0 : (openP l).2 = 0) :
    Calls Try.prog 31 #[.slice A l.length c] w fun z w' => ∃ v, z = .returned (.tuple #[.agg #[.int .i64 (getS l).1.k, .int .i64 (getS l).1.e, .int .i64 (getS l).1.n, .int .i64 (getS l).1.l, v], .int .i64 (getS l).2]) ∧ Kd.R (Kd.int .u8) 5 w' w.heap.size (fun _ => True) v (getS l).1.d ∧ Below w.heap.size w w' := by
  have HC := Aside0.mk hC
  have HBY := Aside0.mk hb
  have HL := Aside0.mk h64
  have H0 := Aside0.mk h0
  obtain ⟨ho1, _⟩ := open_len l h0
  obtain ⟨own, hown⟩ : ∃ own, own = (openP l).1 := ⟨_, rfl⟩
  have hlo : own.length = 60 := by rw [hown, ho1, List.length_take, h64]; omega
  have hob : ∀ y ∈ own, 0 ≤ y ∧ y ≤ 255 := fun y hy => hb y (by rw [hown, ho1] at hy; exact List.mem_of_mem_take hy)
  have HLO := Aside0.mk hlo
  have HOB := Aside0.mk hob
  obtain ⟨r, hr⟩ : ∃ r, r = getS l := ⟨_, rfl⟩
  rw [← hr]
  have HQ := Aside0.mk (show r = if okS own = true then (rawS own, 0) else (zeroS, 5) by rw [hr, hown]; unfold getS; rw [if_neg (by omega), if_neg (by omega)])
  have HOWN := Aside0.mk hown
  obtain ⟨k, hk⟩ : ∃ z, z = (rawS own).k := ⟨_, rfl⟩
  obtain ⟨e, he⟩ : ∃ z, z = (rawS own).e := ⟨_, rfl⟩
  obtain ⟨n, hn⟩ : ∃ z, z = (rawS own).n := ⟨_, rfl⟩
  obtain ⟨lf, hlf⟩ : ∃ z, z = (rawS own).l := ⟨_, rfl⟩
  have hsz := unfix1 ((own.drop 1).take 1) (by rw [List.length_take, List.length_drop, hlo]; omega) (take_byte hob 1 1)
  have hsz2 : sizeS own = unB ((own.drop 1).take 1) := by unfold sizeS numP; rw [hsz.1]; rfl
  obtain ⟨sn, hs⟩ : ∃ sn : Nat, (sn : Int) = sizeS own := ⟨(unB ((own.drop 1).take 1)).toNat, by rw [hsz2]; omega⟩
  have hs6 : sn ≤ 255 := by rw [hsz2] at hs; omega
  have HS6 := Aside0.mk hs6
  have HSZ := Aside0.mk (show sizeS own = (sn : Int) from hs.symm)
  have HRD := Aside0.mk (show (rawS own).d = (own.drop 12).take sn by unfold rawS; rw [show sizeS own = (sn : Int) from hs.symm, Int.toNat_natCast])
  have HRAW := Aside0.mk (show rawS own = ⟨k, e, n, lf, (own.drop 12).take sn⟩ by rw [hk, he, hn, hlf, ← HRD.out])
  have HNU := Aside0.mk (show numsS own 5 = [k, (sn : Int), lf, e, n] by rw [nums5, hk, he, hn, hlf, hs])
  clear hC hb h0 ho1 hown hlo hob hr hk he hn hlf hsz hsz2 hs hs6
  rw [h64] at hc ⊢
  clear h64
  go_enter Try.func31, Try.ntmps31
  go_wp2_with fail
  obtain ⟨W, hW⟩ : ∃ W, W = w.alloc (.cells #[.int .i64 0, .int .i64 0, .int .i64 0, .int .i64 0, .slice none 0 0] 69) := ⟨_, rfl⟩
  have HB0 := Aside0.mk (show Below w.heap.size w W by rw [hW]; exact (Below.refl _ _).alloc (Nat.le_refl _) _)
  have HBX := Aside0.mk (show W.heap[w.heap.size]? = some (.cells #[.int .i64 0, .int .i64 0, .int .i64 0, .int .i64 0, .slice none 0 0] 69 (0, 0)) by rw [hW]; exact heap_alloc_new w _)
  rw [← hW]
  clear hW
  have hop := open_any A c l W (Kd.C_below HC.out HB0.out) HBY.out (by rw [HL.out]; omega) (by rw [HL.out]; omega)
  rw [HL.out, H0.out, ← HOWN.out] at hop
  refine hop.mono ?_
  clear hop
  rintro z w1 ⟨v1, rfl, hr1, b1⟩
  obtain ⟨_, ho1⟩ := Kd.own_of_R hr1
  rcases ho1 with ⟨_, hz⟩ | ⟨g, cap, cur, rfl, _⟩
  · have := HLO.out; rw [hz] at this; cases this
  have HX1 := Aside0.mk ((b1.block _ (blk_lt HBX.out)).trans HBX.out)
  have HB1 := Aside0.mk (HB0.out.trans (b1.mono HB0.out.size))
  have HR1 := Aside0.mk (row_at hr1)
  clear hr1 b1
  rw [HLO.out]
  go_wp2_with fail
  have hf := from_any ⟨g, 0, none⟩ cap own HR1.out (by rw [HLO.out]; omega)
  rw [HLO.out] at hf
  refine hf.mono ?_
  clear hf
  rintro z w2 ⟨cb, rfl, hp, b2⟩
  have HG := Aside0.mk (show GT w w2 w1.heap.size cb own false from ⟨HB1.out.trans (b2.mono HB1.out.size), (b2.block _ (blk_lt HX1.out)).trans HX1.out, hp, by have := (pc_lt hp).2; have := blk_lt HX1.out; omega, (pc_lt hp).1⟩)
  clear hp b2 HX1 HR1
  go_wp2_with fail
  obtain ⟨w3, hw3⟩ : ∃ w3, w3 = w2.alloc (.cells #[.int .i64 1, .int .i64 1, .int .i64 2, .int .i64 4, .int .i64 4] 3) := ⟨_, rfl⟩
  have hb3 : Below w2.heap.size w2 w3 := by rw [hw3]; exact (Below.refl _ _).alloc (Nat.le_refl _) _
  have hx3 : w3.heap[w2.heap.size]? = some (.cells #[.int .i64 1, .int .i64 1, .int .i64 2, .int .i64 4, .int .i64 4] 3 (0, 0)) := by rw [hw3]; exact heap_alloc_new w2 _
  rw [← hw3]
  have hg := HG.out.step hb3
  clear HG hw3 hb3
  have HG := Aside0.mk hg
  clear hg
  refine (numbers_any own HG.out.pc HLO.out HOB.out hx3).mono ?_
  clear hx3
  rintro z w4 ⟨A4, c4, rfl, hr4, hp4, ho4⟩
  have hg := HG.out.only ho4 hp4
  have HCB4 := Aside0.mk (Nat.lt_of_lt_of_le HG.out.cur (Nat.le_refl _))
  clear HG hp4 ho4
  have HG := Aside0.mk hg
  clear hg
  rw [HNU.out] at hr4
  obtain ⟨_, hl4⟩ := Kd.own_of_R hr4
  rcases hl4 with ⟨_, hz⟩ | ⟨gl, cap4, cur4, he4, hgl3, hgl4, _⟩
  · cases hz
  cases he4
  have hC4 := (Kd.R_reads' hr4).2.2
  have HGL := Aside0.mk (show gl ≠ cb by have := HCB4.out; omega)
  have HGB := Aside0.mk hgl4
  have hi : ∀ (j : Nat) (v : Int), j < 5 → ([k, (sn : Int), lf, e, n] : List Int).getD j 0 = v → w4.cell? ⟨gl, j, none⟩ = some (.int .i64 v) := fun j v hj hv => by
    obtain ⟨ad, ea, hx⟩ := Kd.at_int hC4 (j : Int) (by omega) (by simp; omega)
    cases ea
    rw [Int.toNat_natCast] at hx
    have hadd : (⟨gl, 0, none⟩ : Addr).add j = ⟨gl, j, none⟩ := by unfold Addr.add; split <;> simp_all
    rw [hadd] at hx
    rw [hx, ← hv]
    rfl
  have HI := Aside0.mk hi
  clear hi hC4 hr4 hgl3 hgl4
  by_cases hk48 : sn ≤ 48
  · have HK48 := Aside0.mk hk48
    obtain ⟨d, hd⟩ : ∃ d, d = (own.drop 12).take sn := ⟨_, rfl⟩
    obtain ⟨rs, hrs⟩ : ∃ rs, rs = (own.drop 12).drop sn := ⟨_, rfl⟩
    have hdl : d.length = sn := by rw [hd, List.length_take, List.length_drop, HLO.out]; omega
    have HDL := Aside0.mk hdl
    have HD := Aside0.mk hd
    have HRS := Aside0.mk hrs
    clear hd hrs hk48 hdl
    go_upto_region 8 with (fail)
    go_cut [8] from 28 to 45 (fun v8 wc => ∃ (xb : Nat) (A7 : Option Addr) (c7 : Nat), v8 = .pointer (some ⟨xb, 0, none⟩) ∧ Aside0 (GT w wc w1.heap.size cb rs false) ∧ Aside0 (wc.heap[xb]? = some (.cells #[.int .i64 k, .int .i64 e, .int .i64 n, .int .i64 lf, .slice A7 sn c7] 69 (0, 0))) ∧ Aside0 (Kd.R (Kd.int .u8) 5 wc w1.heap.size (fun j => w4.heap.size ≤ j) (.slice A7 sn c7) d) ∧ Aside0 (cb < xb))
    case first =>
      refine Go.Reg.region_fork (Only cb w4) [.s, .s, .s, .s, .s, .s, .s, .s, .s, .s, .s, .s, .s, .s, .s, .s, .w, .p, .w, .x] [0, 1, 2, 3, 4, 5, 6, 7, 8, 9, 10, 11, 12, 13, 14, 15] 16 18 [17, 18, 19] [16, 17, 19] (by kernel_rfl) (by kernel_rfl) (.of_below (below_drew1 (Below.refl _ _))) (fun ne => ?_)
      have hm : ∀ (j : Nat) (v : Int), j < 5 → ([k, (sn : Int), lf, e, n] : List Int).getD j 0 = v → ∀ m : Go.Reg.In (Only cb w4), m.w.cell? ⟨gl, j, none⟩ = some (.int .i64 v) := fun j v hj hv m => by
        have h1 := HI.out j v hj hv
        rw [cell_blk HGB.out] at h1
        rw [cell_blk ((m.h.block gl (blk_lt HGB.out) HGL.out).trans HGB.out)]
        exact h1
      have hm0 := hm 0 k (by decide) rfl
      have hm1 := hm 1 (sn : Int) (by decide) rfl
      have hm2 := hm 2 lf (by decide) rfl
      have hm3 := hm 3 e (by decide) rfl
      have hm4 := hm 4 n (by decide) rfl
      clear hm
      dsimp only [Go.Reg.pick, List.filterMap, List.map, List.getD_eq_getElem?_getD]
      simp only [List.getElem?_toArray, List.getElem?_cons_zero, List.getElem?_cons_succ, List.filterMap_cons, List.filterMap_nil, Option.getD_some]
      refine Go.Reg.lex_q 16 _ _ _ _ (by rfl) ?_; simp only [List.take_succ_cons, List.take_zero, List.drop_succ_cons, List.drop_zero]; (repeat (go_big_quiet_step (rfl))); refine wpQuiet_nil ?_
      refine Go.Reg.lex_nil ?_
      clear hm0 hm1 hm2 hm3 hm4
      have HOD := Aside0.mk (Only.of_below (b := cb) (below_drew1 (Below.refl w4.heap.size w4)))
      have HGD := Aside0.mk (HG.out.step (below_drew1 (Below.refl w4.heap.size w4)))
      refine ⟨?_, ?_, fun o ho => ?_⟩
      · refine Go.Reg.step_w (fun KK hKK => ?_)
        go_wp2_with fail
        refine (take_yes HGD.out.pc sn (by rw [List.length_drop, HLO.out]; have := HK48.out; omega)).mono ?_
        rintro z w5 ⟨v7, rfl, hr, hp, ho⟩
        rw [← HD.out] at hr
        rw [← HRS.out] at hp
        obtain ⟨A7, c7, rfl⟩ := Kd.R_slice hr
        rw [HDL.out] at hr ⊢
        have HO5 := Aside0.mk (HOD.out.trans ho)
        have HP5 := Aside0.mk hp
        have HR5 := Aside0.mk (show Kd.R (Kd.int .u8) 5 w5 w1.heap.size (fun j => w4.heap.size ≤ j) (.slice A7 sn c7) d from Kd.R_lower (base' := w1.heap.size) (R_bnd hr) (by have := HGD.out.pc; have := (pc_lt this); have : w4.drew.heap.size = w4.heap.size := rfl; omega))
        clear hr hp ho
        go_wp2_with fail
        refine hKK.out _ _ HO5.out ?_
        clear hKK KK
        refine Go.Reg.lex_qp 1 _ _ _ _ _ (by rfl) ?_; simp only [List.take_succ_cons, List.take_zero, List.drop_succ_cons, List.drop_zero]; (repeat (go_big_quiet_step (rfl))); refine wpQuiet_nil ?_
        refine Go.Reg.step_w (fun KK hKK => ?_)
        go_wp2_with fail
        have hal := (Below.refl w5.heap.size w5).alloc (Nat.le_refl _) (.cells #[.int .i64 0, .int .i64 0, .int .i64 0, .int .i64 0, .slice none 0 0] 69)
        have hnb := heap_alloc_new w5 (.cells #[.int .i64 0, .int .i64 0, .int .i64 0, .int .i64 0, .slice none 0 0] 69)
        obtain ⟨w6, hw6⟩ : ∃ w6, w6 = w5.alloc (.cells #[.int .i64 0, .int .i64 0, .int .i64 0, .int .i64 0, .slice none 0 0] 69) := ⟨_, rfl⟩
        rw [← hw6] at hal hnb
        rw [← hw6]
        have HO6 := Aside0.mk (HO5.out.trans (.of_below hal))
        have HP6 := Aside0.mk (HP5.out.only (b := 0) hal)
        have HR6 := Aside0.mk (Kd.R_below HR5.out hal)
        have hub := HO5.out.size
        obtain ⟨xb, hxb⟩ : ∃ xb, xb = w5.heap.size := ⟨_, rfl⟩
        rw [← hxb] at hnb hub
        rw [← hxb]
        have HNB := Aside0.mk hnb
        have HUB := Aside0.mk hub
        clear hw6 hal hnb hxb hub
        refine hKK.out _ _ HO6.out ?_
        clear hKK KK
        have e0 : w6.cell? ⟨xb, 0, none⟩ = some (.int .i64 0) := cell_blk HNB.out
        have e1 : w6.cell? ⟨xb, 1, none⟩ = some (.int .i64 0) := cell_blk HNB.out
        have e2 : w6.cell? ⟨xb, 2, none⟩ = some (.int .i64 0) := cell_blk HNB.out
        have e3 : w6.cell? ⟨xb, 3, none⟩ = some (.int .i64 0) := cell_blk HNB.out
        have e4 : w6.cell? ⟨xb, 4, none⟩ = some (.slice none 0 0) := cell_blk HNB.out
        have g0 : w6.frozen? ⟨xb, 0, none⟩ = false := frozen_blk HNB.out
        have g1 : w6.frozen? ⟨xb, 1, none⟩ = false := frozen_blk HNB.out
        have g2 : w6.frozen? ⟨xb, 2, none⟩ = false := frozen_blk HNB.out
        have g3 : w6.frozen? ⟨xb, 3, none⟩ = false := frozen_blk HNB.out
        have g4 : w6.frozen? ⟨xb, 4, none⟩ = false := frozen_blk HNB.out
        refine Go.Reg.step_x (by rfl) (fun KK hKK => ?_)
        go_wp2_with fail
        refine hKK.out _ _ ?_
        clear hKK KK
        try simp only [Act.put, List.setIfInBounds_toArray, List.set_cons_succ, List.set_cons_zero]
        refine Go.Reg.lex_nil ?_
        clear e0 e1 e2 e3 e4 g0 g1 g2 g3 g4
        go_wp2_with fail
        go_meet
        case rel =>
          exact ⟨xb, A7, c7, rfl, ⟨HG.out.only (sets5 HO6.out HUB.out _ _ _ _ _) (pc_other HP6.out HNB.out (five_but _ _ _ _ _))⟩, ⟨five_set HNB.out _ _ _ _ _⟩, ⟨R_other HR6.out HNB.out (by decide) (five_but _ _ _ _ _)⟩, ⟨by have := HG.out.cur; have := HUB.out; omega⟩⟩
      · refine Go.Reg.step_w (fun KK hKK => ?_)
        go_wp2_with fail
        obtain ⟨w5, hw5⟩ : ∃ w5, w5 = (w4.alloc (.cells #[.int .i64 0, .int .i64 0, .int .i64 0, .int .i64 0, .slice none 0 0] 69)).drew := ⟨_, rfl⟩
        have hal : Below w4.drew.heap.size w4.drew w5 := by rw [hw5]; exact (Below.refl w4.drew.heap.size w4.drew).alloc (Nat.le_refl _) (.cells #[.int .i64 0, .int .i64 0, .int .i64 0, .int .i64 0, .slice none 0 0] 69)
        have hnb : w5.heap[w4.heap.size]? = some (.cells #[.int .i64 0, .int .i64 0, .int .i64 0, .int .i64 0, .slice none 0 0] 69 (0, 0)) := by rw [hw5]; exact heap_alloc_new w4.drew (.cells #[.int .i64 0, .int .i64 0, .int .i64 0, .int .i64 0, .slice none 0 0] 69)
        rw [← hw5]
        have HO5 := Aside0.mk (HOD.out.trans (.of_below hal))
        have HGE := Aside0.mk (HGD.out.step hal)
        obtain ⟨xb, hxb⟩ : ∃ xb, xb = w4.heap.size := ⟨_, rfl⟩
        have hub : w4.heap.size ≤ xb := by omega
        have HNB5 := Aside0.mk hnb
        have HUB := Aside0.mk hub
        rw [← hxb] at HNB5
        rw [← hxb]
        have HXC := Aside0.mk (show xb ≠ cb by have := HG.out.cur; omega)
        clear hw5 hal hnb hxb hub
        refine hKK.out _ _ HO5.out ?_
        clear hKK KK
        refine Go.Reg.step_w (fun KK hKK => ?_)
        go_wp2_with fail
        refine (take_yes HGE.out.pc sn (by rw [List.length_drop, HLO.out]; have := HK48.out; omega)).mono ?_
        rintro z w6 ⟨v7, rfl, hr, hp, ho⟩
        rw [← HD.out] at hr
        rw [← HRS.out] at hp
        obtain ⟨A7, c7, rfl⟩ := Kd.R_slice hr
        rw [HDL.out] at hr ⊢
        have HO6 := Aside0.mk (HO5.out.trans ho)
        have HP6 := Aside0.mk hp
        have HNB := Aside0.mk ((ho.block xb (blk_lt HNB5.out) HXC.out).trans HNB5.out)
        have HR6 := Aside0.mk (show Kd.R (Kd.int .u8) 5 w6 w1.heap.size (fun j => w4.heap.size ≤ j) (.slice A7 sn c7) d from Kd.R_mono (Kd.R_lower (base' := w1.heap.size) (R_bnd hr) (by have := (pc_lt HGE.out.pc); omega)) (fun j hj => Nat.le_trans HO5.out.size hj))
        clear hr hp ho
        go_wp2_with fail
        refine hKK.out _ _ HO6.out ?_
        clear hKK KK
        refine Go.Reg.lex_qp 1 _ _ _ _ _ (by rfl) ?_; simp only [List.take_succ_cons, List.take_zero, List.drop_succ_cons, List.drop_zero]; (repeat (go_big_quiet_step (rfl))); refine wpQuiet_nil ?_
        have e0 : w6.cell? ⟨xb, 0, none⟩ = some (.int .i64 0) := cell_blk HNB.out
        have e1 : w6.cell? ⟨xb, 1, none⟩ = some (.int .i64 0) := cell_blk HNB.out
        have e2 : w6.cell? ⟨xb, 2, none⟩ = some (.int .i64 0) := cell_blk HNB.out
        have e3 : w6.cell? ⟨xb, 3, none⟩ = some (.int .i64 0) := cell_blk HNB.out
        have e4 : w6.cell? ⟨xb, 4, none⟩ = some (.slice none 0 0) := cell_blk HNB.out
        have g0 : w6.frozen? ⟨xb, 0, none⟩ = false := frozen_blk HNB.out
        have g1 : w6.frozen? ⟨xb, 1, none⟩ = false := frozen_blk HNB.out
        have g2 : w6.frozen? ⟨xb, 2, none⟩ = false := frozen_blk HNB.out
        have g3 : w6.frozen? ⟨xb, 3, none⟩ = false := frozen_blk HNB.out
        have g4 : w6.frozen? ⟨xb, 4, none⟩ = false := frozen_blk HNB.out
        refine Go.Reg.step_x (by rfl) (fun KK hKK => ?_)
        go_wp2_with fail
        refine hKK.out _ _ ?_
        clear hKK KK
        try simp only [Act.put, List.setIfInBounds_toArray, List.set_cons_succ, List.set_cons_zero]
        refine Go.Reg.lex_nil ?_
        clear e0 e1 e2 e3 e4 g0 g1 g2 g3 g4
        go_wp2_with fail
        go_meet
        case rel =>
          exact ⟨xb, A7, c7, rfl, ⟨HG.out.only (sets5 HO6.out HUB.out _ _ _ _ _) (pc_other HP6.out HNB.out (five_but _ _ _ _ _))⟩, ⟨five_set HNB.out _ _ _ _ _⟩, ⟨R_other HR6.out HNB.out (by decide) (five_but _ _ _ _ _)⟩, ⟨by have := HG.out.cur; have := HUB.out; omega⟩⟩
      · rcases ho with ho | ho <;> (cases ho; rfl)
    case rest =>
      have HCQ := Aside0.mk HG.out.cur
      obtain ⟨xb, A7, c7, rfl, HG, HXB, HR8, HCX⟩ := hcut
      go_wp2_with fail
      refine (bad_any HG.out.pc).mono ?_
      rintro z w8 ⟨rfl, hw8⟩
      obtain rfl : w8 = wc := hw8
      have x0 : w8.cell? ⟨xb, 0, none⟩ = some (.int .i64 k) := cell_blk HXB.out
      have x1 : w8.cell? ⟨xb, 1, none⟩ = some (.int .i64 e) := cell_blk HXB.out
      have x2 : w8.cell? ⟨xb, 2, none⟩ = some (.int .i64 n) := cell_blk HXB.out
      have x3 : w8.cell? ⟨xb, 3, none⟩ = some (.int .i64 lf) := cell_blk HXB.out
      have x4 : w8.cell? ⟨xb, 4, none⟩ = some (.slice A7 sn c7) := cell_blk HXB.out
      go_wp2_with fail
      have hm := PSectorGets.sector_may.calls k e n lf A7 c7 d (secOk k e n lf d) w8 (row_at HR8.out) (by have := (Kd.R_reads' HR8.out).2.1; rw [HDL.out]; exact this) (may_plain k e n lf d)
      rw [HDL.out] at hm
      by_cases hok : secOk k e n lf d = true
      · rw [hok] at hm
        refine hm.mono ?_
        clear hm x0 x1 x2 x3 x4
        rintro z w9 ⟨rfl, b9⟩
        have HOK := Aside0.mk hok
        have HX9 := Aside0.mk ((b9.block _ (blk_lt HXB.out)).trans HXB.out)
        have HR9 := Aside0.mk (Kd.R_below HR8.out b9)
        have hg := HG.out.step b9
        clear HG b9 hok HXB HR8
        have HG := Aside0.mk hg
        clear hg
        go_wp2_with fail
        refine (left_any HG.out.pc).mono ?_
        rintro z w9' ⟨rfl, hw9'⟩
        obtain rfl : w9' = w9 := hw9'
        go_wp2_with fail
        refine (take_yes HG.out.pc rs.length (Nat.le_refl _)).mono ?_
        rintro z w10 ⟨v10, rfl, hr, hp, ho⟩
        rw [List.take_length] at hr
        have HO10 := Aside0.mk ho
        have HV10 := Aside0.mk hr
        clear hr hp ho
        obtain ⟨A10, c10, rfl⟩ := Kd.R_slice HV10.out
        go_wp2_with ((with_reducible refine gate_builtin (b := .append) (xs := #[.tmp 57, .tmp 58]) rfl ?_); at_builtin; refine Hid.out ?_)
        refine Lib.hid ?_
        obtain ⟨w11, hw11⟩ : ∃ w11, w11 = w10.alloc (.cells #[.int .u8 0] 5) := ⟨_, rfl⟩
        have hb11 : Below w10.heap.size w10 w11 := by rw [hw11]; exact (Below.refl _ _).alloc (Nat.le_refl _) _
        have hn11 : w11.heap[w10.heap.size]? = some (.cells #[.int .u8 0] 5 (0, 0)) := by rw [hw11]; exact heap_alloc_new w10 _
        rw [← hw11]
        clear hw11
        have HO11 := Aside0.mk (HO10.out.trans (Only.of_below hb11))
        have HV11 := Aside0.mk (Kd.R_below HV10.out hb11)
        have HN11 := Aside0.mk (rowN hn11)
        clear HO10 HV10 hb11 hn11
        have HRL := Aside0.mk (show rs.length ≤ 60 by rw [HRS.out, List.length_drop, List.length_drop, HLO.out]; omega)
        have HRB := Aside0.mk (show ∀ y ∈ rs ++ [0], 0 ≤ y ∧ y ≤ 255 from fun y hy => by
          rcases List.mem_append.1 hy with h | h
          · exact HOB.out y (by rw [HRS.out] at h; exact List.mem_of_mem_drop (List.mem_of_mem_drop h))
          · rw [List.mem_singleton.1 h]; omega)
        refine wpList_step (fun K' hK => ?_)
        refine Kd.R_append_rows_step (Kd.int .u8) (Rr := (Kd.int .u8).K w11) (w0 := w11) w9'.heap.size (by rfl) (.tmp 57) (.tmp 58) 26 5 (.int .u8 0) 1 rfl Try.underlying26 infoU8 rfl (by decide) (by omega) (.slice A10 rs.length c10) rs [0] _ _ _ (fun _ => True) (fun _ => False) rfl rfl HV11.out HN11.out (fun x cs h => h) (fun _ hk => hk.elim) (fun _ _ => trivial) (Below.refl _ _) HO11.out.size (by have := HRL.out; simp; omega) ?_
        intro v12 w12 hr12 hb12 _ _
        refine hK _ _ ?_
        clear hK K'
        have HO12 := Aside0.mk (show Only cb w9' w12 from only_trans' HO11.out hb12)
        have HV12 := Aside0.mk hr12
        obtain ⟨A12, c12, rfl⟩ := Kd.R_slice hr12
        clear hr12 hb12 HO11 HV11 HN11
        have hln : (rs ++ [0]).length = rs.length + 1 := by rw [List.length_append]; rfl
        have hmx := max_any A12 c12 (rs ++ [0]) (row_at HV12.out) HRB.out (by rw [hln]; omega) (by rw [hln]; have := HRL.out; omega)
        obtain ⟨ln, hlnn⟩ : ∃ ln, ln = (rs ++ [0]).length := ⟨_, rfl⟩
        obtain ⟨m, hm⟩ : ∃ m, m = maxL (rs ++ [0]) := ⟨_, rfl⟩
        have hmr := maxL_range (rs ++ [0]) HRB.out
        rw [← hlnn, ← hm] at hmx
        rw [← hm] at hmr
        rw [← hlnn]
        have HM := Aside0.mk (show m = maxL (own.drop (12 + sn)) by
          rw [hm, maxL_snoc _ _ (by omega), HRS.out, List.drop_drop]
          have := (maxL_range (own.drop (12 + sn)) (fun y hy => HOB.out y (List.mem_of_mem_drop hy))).1
          first
          | (rw [Nat.add_comm sn 12]; omega)
          | omega)
        have HX12 := Aside0.mk ((HO12.out.block _ (blk_lt HX9.out) (by have := HCX.out; omega)).trans HX9.out)
        have HR12 := Aside0.mk (R_oldS HR9.out HO12.out HCQ.out)
        have HBW := Aside0.mk (HG.out.end_ HO12.out).1
        have HZ := Aside0.mk (HG.out.end_ HO12.out).2
        clear hm hln hlnn HX9 HR9 HV12
        by_cases h0 : m = 0
        · subst h0
          go_wp2_with fail
          refine hmx.mono ?_
          clear hmx
          rintro z w13 ⟨rfl, hw13⟩
          obtain rfl : w13 = w12 := hw13
          have z0 : w13.cell? ⟨w.heap.size, 0, none⟩ = some (.int .i64 0) := cell_blk HZ.out
          have z1 : w13.cell? ⟨w.heap.size, 1, none⟩ = some (.int .i64 0) := cell_blk HZ.out
          have z2 : w13.cell? ⟨w.heap.size, 2, none⟩ = some (.int .i64 0) := cell_blk HZ.out
          have z3 : w13.cell? ⟨w.heap.size, 3, none⟩ = some (.int .i64 0) := cell_blk HZ.out
          have z4 : w13.cell? ⟨w.heap.size, 4, none⟩ = some (.slice none 0 0) := cell_blk HZ.out
          have f0 : w13.frozen? ⟨w.heap.size, 0, none⟩ = false := frozen_blk HZ.out
          have f1 : w13.frozen? ⟨w.heap.size, 1, none⟩ = false := frozen_blk HZ.out
          have f2 : w13.frozen? ⟨w.heap.size, 2, none⟩ = false := frozen_blk HZ.out
          have f3 : w13.frozen? ⟨w.heap.size, 3, none⟩ = false := frozen_blk HZ.out
          have f4 : w13.frozen? ⟨w.heap.size, 4, none⟩ = false := frozen_blk HZ.out
          have y0 : w13.cell? ⟨xb, 0, none⟩ = some (.int .i64 k) := cell_blk HX12.out
          have y1 : w13.cell? ⟨xb, 1, none⟩ = some (.int .i64 e) := cell_blk HX12.out
          have y2 : w13.cell? ⟨xb, 2, none⟩ = some (.int .i64 n) := cell_blk HX12.out
          have y3 : w13.cell? ⟨xb, 3, none⟩ = some (.int .i64 lf) := cell_blk HX12.out
          have y4 : w13.cell? ⟨xb, 4, none⟩ = some (.slice A7 sn c7) := cell_blk HX12.out
          go_wp2_with fail
          refine bodyPost_ret (results_ct rfl _ _ w.heap.size 69 #[.int .i64 k, .int .i64 e, .int .i64 n, .int .i64 lf, .slice A7 sn c7] (0, 0) _ rfl (five_set HZ.out _ _ _ _ _) Try.underlying69 rfl (by kernel_rfl)) rfl ?_
          have hr5 : r = (⟨k, e, n, lf, d⟩, 0) := by
            rw [HQ.out, if_pos]
            · rw [HRAW.out, HD.out]
            · unfold okS
              rw [HRAW.out, HSZ.out, ← HD.out, HOK.out, Int.toNat_natCast, ← HM.out, decide_eq_true (by have := HK48.out; omega)]
              rfl
          have hrr := R_other HR12.out HZ.out (by decide) (five_but (.int .i64 k) (.int .i64 e) (.int .i64 n) (.int .i64 lf) (.slice A7 sn c7))
          exact ⟨_, by rw [hr5]; rfl, by rw [hr5]; exact Kd.R_mono (Kd.R_lower hrr HB1.out.size) (fun _ _ => trivial), five_below HBW.out (Nat.le_refl _) _ _ _ _ _⟩
        · have hgt : 0 < m := by omega
          have hgd : decide (0 < m) = true := decide_eq_true hgt
          go_wp2_with fail
          refine hmx.mono ?_
          clear hmx
          rintro z w13 ⟨rfl, hw13⟩
          obtain rfl : w13 = w12 := hw13
          have z0 : w13.cell? ⟨w.heap.size, 0, none⟩ = some (.int .i64 0) := cell_blk HZ.out
          have z1 : w13.cell? ⟨w.heap.size, 1, none⟩ = some (.int .i64 0) := cell_blk HZ.out
          have z2 : w13.cell? ⟨w.heap.size, 2, none⟩ = some (.int .i64 0) := cell_blk HZ.out
          have z3 : w13.cell? ⟨w.heap.size, 3, none⟩ = some (.int .i64 0) := cell_blk HZ.out
          have z4 : w13.cell? ⟨w.heap.size, 4, none⟩ = some (.slice none 0 0) := cell_blk HZ.out
          have f0 : w13.frozen? ⟨w.heap.size, 0, none⟩ = false := frozen_blk HZ.out
          have f1 : w13.frozen? ⟨w.heap.size, 1, none⟩ = false := frozen_blk HZ.out
          have f2 : w13.frozen? ⟨w.heap.size, 2, none⟩ = false := frozen_blk HZ.out
          have f3 : w13.frozen? ⟨w.heap.size, 3, none⟩ = false := frozen_blk HZ.out
          have f4 : w13.frozen? ⟨w.heap.size, 4, none⟩ = false := frozen_blk HZ.out
          have HR5 := Aside0.mk (show r = (zeroS, 5) by rw [HQ.out, if_neg]; unfold okS; rw [HSZ.out, Int.toNat_natCast, ← HM.out, decide_eq_false h0, Bool.and_false, Bool.and_false]; decide)
          go_wp2_with fail
          refine bodyPost_ret (results_ct rfl _ _ w.heap.size 69 #[.int .i64 0, .int .i64 0, .int .i64 0, .int .i64 0, .slice none 0 0] (0, 0) _ rfl (five_set HZ.out _ _ _ _ _) Try.underlying69 rfl (by kernel_rfl)) rfl ?_
          exact ⟨_, by rw [HR5.out]; rfl, by rw [HR5.out]; exact Kd.R_nil _ _ _ _ _, five_below HBW.out (Nat.le_refl _) _ _ _ _ _⟩
      · have hok' : secOk k e n lf d = false := by simpa using hok
        rw [hok'] at hm
        refine hm.mono ?_
        clear hm x0 x1 x2 x3 x4
        rintro z w9 ⟨rfl, b9⟩
        have HR5 := Aside0.mk (show r = (zeroS, 5) by rw [HQ.out, if_neg]; unfold okS; rw [HRAW.out, HSZ.out, ← HD.out, hok', Bool.false_and, Bool.and_false]; decide)
        have hg := HG.out.step b9
        clear HG b9 hok hok' HXB HR8
        have HG := Aside0.mk hg
        clear hg
        have hz := HG.out.zero
        have z0 : w9.cell? ⟨w.heap.size, 0, none⟩ = some (.int .i64 0) := cell_blk hz
        have z1 : w9.cell? ⟨w.heap.size, 1, none⟩ = some (.int .i64 0) := cell_blk hz
        have z2 : w9.cell? ⟨w.heap.size, 2, none⟩ = some (.int .i64 0) := cell_blk hz
        have z3 : w9.cell? ⟨w.heap.size, 3, none⟩ = some (.int .i64 0) := cell_blk hz
        have z4 : w9.cell? ⟨w.heap.size, 4, none⟩ = some (.slice none 0 0) := cell_blk hz
        have f0 : w9.frozen? ⟨w.heap.size, 0, none⟩ = false := frozen_blk hz
        have f1 : w9.frozen? ⟨w.heap.size, 1, none⟩ = false := frozen_blk hz
        have f2 : w9.frozen? ⟨w.heap.size, 2, none⟩ = false := frozen_blk hz
        have f3 : w9.frozen? ⟨w.heap.size, 3, none⟩ = false := frozen_blk hz
        have f4 : w9.frozen? ⟨w.heap.size, 4, none⟩ = false := frozen_blk hz
        clear hz
        go_wp2_with fail
        refine bodyPost_ret (results_ct rfl _ _ w.heap.size 69 #[.int .i64 0, .int .i64 0, .int .i64 0, .int .i64 0, .slice none 0 0] (0, 0) _ rfl (five_set HG.out.zero _ _ _ _ _) Try.underlying69 rfl (by kernel_rfl)) rfl ?_
        exact ⟨_, by rw [HR5.out]; rfl, by rw [HR5.out]; exact Kd.R_nil _ _ _ _ _, five_below HG.out.below (Nat.le_refl _) _ _ _ _ _⟩
  · have HNO := Aside0.mk (show takeOk (own.drop 12) false (sn : Int) = false by
      unfold takeOk
      rw [decide_eq_false (p := (sn : Int) ≤ ((own.drop 12).length : Int)) (by rw [List.length_drop, HLO.out]; omega), Bool.and_false, Bool.and_false])
    have HK48 := Aside0.mk hk48
    clear hk48
    go_upto_region 8 with (fail)
    go_cut [8] from 28 to 45 (fun v8 wc => ∃ (xb : Nat), v8 = .pointer (some ⟨xb, 0, none⟩) ∧ Aside0 (GT w wc w1.heap.size cb [] true))
    case first =>
      refine Go.Reg.region_fork (Only cb w4) [.s, .s, .s, .s, .s, .s, .s, .s, .s, .s, .s, .s, .s, .s, .s, .s, .w, .p, .w, .x] [0, 1, 2, 3, 4, 5, 6, 7, 8, 9, 10, 11, 12, 13, 14, 15] 16 18 [17, 18, 19] [16, 17, 19] (by kernel_rfl) (by kernel_rfl) (.of_below (below_drew1 (Below.refl _ _))) (fun ne => ?_)
      have hm : ∀ (j : Nat) (v : Int), j < 5 → ([k, (sn : Int), lf, e, n] : List Int).getD j 0 = v → ∀ m : Go.Reg.In (Only cb w4), m.w.cell? ⟨gl, j, none⟩ = some (.int .i64 v) := fun j v hj hv m => by
        have h1 := HI.out j v hj hv
        rw [cell_blk HGB.out] at h1
        rw [cell_blk ((m.h.block gl (blk_lt HGB.out) HGL.out).trans HGB.out)]
        exact h1
      have hm0 := hm 0 k (by decide) rfl
      have hm1 := hm 1 (sn : Int) (by decide) rfl
      have hm2 := hm 2 lf (by decide) rfl
      have hm3 := hm 3 e (by decide) rfl
      have hm4 := hm 4 n (by decide) rfl
      clear hm
      dsimp only [Go.Reg.pick, List.filterMap, List.map, List.getD_eq_getElem?_getD]
      simp only [List.getElem?_toArray, List.getElem?_cons_zero, List.getElem?_cons_succ, List.filterMap_cons, List.filterMap_nil, Option.getD_some]
      refine Go.Reg.lex_q 16 _ _ _ _ (by rfl) ?_; simp only [List.take_succ_cons, List.take_zero, List.drop_succ_cons, List.drop_zero]; (repeat (go_big_quiet_step (rfl))); refine wpQuiet_nil ?_
      refine Go.Reg.lex_nil ?_
      clear hm0 hm1 hm2 hm3 hm4
      have HOD := Aside0.mk (Only.of_below (b := cb) (below_drew1 (Below.refl w4.heap.size w4)))
      have HGD := Aside0.mk (HG.out.step (below_drew1 (Below.refl w4.heap.size w4)))
      refine ⟨?_, ?_, fun o ho => ?_⟩
      · refine Go.Reg.step_w (fun KK hKK => ?_)
        go_wp2_with fail
        refine (take_no HGD.out.pc (sn : Int) HNO.out).mono ?_
        rintro z w5 ⟨rfl, hp, ho⟩
        have HO5 := Aside0.mk (HOD.out.trans ho)
        have HP5 := Aside0.mk hp
        clear hp ho
        go_wp2_with fail
        refine hKK.out _ _ HO5.out ?_
        clear hKK KK
        refine Go.Reg.lex_qp 1 _ _ _ _ _ (by rfl) ?_; simp only [List.take_succ_cons, List.take_zero, List.drop_succ_cons, List.drop_zero]; (repeat (go_big_quiet_step (rfl))); refine wpQuiet_nil ?_
        refine Go.Reg.step_w (fun KK hKK => ?_)
        go_wp2_with fail
        have hal := (Below.refl w5.heap.size w5).alloc (Nat.le_refl _) (.cells #[.int .i64 0, .int .i64 0, .int .i64 0, .int .i64 0, .slice none 0 0] 69)
        have hnb := heap_alloc_new w5 (.cells #[.int .i64 0, .int .i64 0, .int .i64 0, .int .i64 0, .slice none 0 0] 69)
        obtain ⟨w6, hw6⟩ : ∃ w6, w6 = w5.alloc (.cells #[.int .i64 0, .int .i64 0, .int .i64 0, .int .i64 0, .slice none 0 0] 69) := ⟨_, rfl⟩
        rw [← hw6] at hal hnb
        rw [← hw6]
        have HO6 := Aside0.mk (HO5.out.trans (.of_below hal))
        have HP6 := Aside0.mk (HP5.out.only (b := 0) hal)
        have hub := HO5.out.size
        obtain ⟨xb, hxb⟩ : ∃ xb, xb = w5.heap.size := ⟨_, rfl⟩
        rw [← hxb] at hnb hub
        rw [← hxb]
        have HNB := Aside0.mk hnb
        have HUB := Aside0.mk hub
        clear hw6 hal hnb hxb hub
        refine hKK.out _ _ HO6.out ?_
        clear hKK KK
        have e0 : w6.cell? ⟨xb, 0, none⟩ = some (.int .i64 0) := cell_blk HNB.out
        have e1 : w6.cell? ⟨xb, 1, none⟩ = some (.int .i64 0) := cell_blk HNB.out
        have e2 : w6.cell? ⟨xb, 2, none⟩ = some (.int .i64 0) := cell_blk HNB.out
        have e3 : w6.cell? ⟨xb, 3, none⟩ = some (.int .i64 0) := cell_blk HNB.out
        have e4 : w6.cell? ⟨xb, 4, none⟩ = some (.slice none 0 0) := cell_blk HNB.out
        have g0 : w6.frozen? ⟨xb, 0, none⟩ = false := frozen_blk HNB.out
        have g1 : w6.frozen? ⟨xb, 1, none⟩ = false := frozen_blk HNB.out
        have g2 : w6.frozen? ⟨xb, 2, none⟩ = false := frozen_blk HNB.out
        have g3 : w6.frozen? ⟨xb, 3, none⟩ = false := frozen_blk HNB.out
        have g4 : w6.frozen? ⟨xb, 4, none⟩ = false := frozen_blk HNB.out
        refine Go.Reg.step_x (by rfl) (fun KK hKK => ?_)
        go_wp2_with fail
        refine hKK.out _ _ ?_
        clear hKK KK
        try simp only [Act.put, List.setIfInBounds_toArray, List.set_cons_succ, List.set_cons_zero]
        refine Go.Reg.lex_nil ?_
        clear e0 e1 e2 e3 e4 g0 g1 g2 g3 g4
        go_wp2_with fail
        go_meet
        case rel =>
          exact ⟨xb, rfl, ⟨HG.out.only (sets5 HO6.out HUB.out _ _ _ _ _) (pc_other HP6.out HNB.out (five_but _ _ _ _ _))⟩⟩
      · refine Go.Reg.step_w (fun KK hKK => ?_)
        go_wp2_with fail
        obtain ⟨w5, hw5⟩ : ∃ w5, w5 = (w4.alloc (.cells #[.int .i64 0, .int .i64 0, .int .i64 0, .int .i64 0, .slice none 0 0] 69)).drew := ⟨_, rfl⟩
        have hal : Below w4.drew.heap.size w4.drew w5 := by rw [hw5]; exact (Below.refl w4.drew.heap.size w4.drew).alloc (Nat.le_refl _) (.cells #[.int .i64 0, .int .i64 0, .int .i64 0, .int .i64 0, .slice none 0 0] 69)
        have hnb : w5.heap[w4.heap.size]? = some (.cells #[.int .i64 0, .int .i64 0, .int .i64 0, .int .i64 0, .slice none 0 0] 69 (0, 0)) := by rw [hw5]; exact heap_alloc_new w4.drew (.cells #[.int .i64 0, .int .i64 0, .int .i64 0, .int .i64 0, .slice none 0 0] 69)
        rw [← hw5]
        have HO5 := Aside0.mk (HOD.out.trans (.of_below hal))
        have HGE := Aside0.mk (HGD.out.step hal)
        obtain ⟨xb, hxb⟩ : ∃ xb, xb = w4.heap.size := ⟨_, rfl⟩
        have hub : w4.heap.size ≤ xb := by omega
        have HNB5 := Aside0.mk hnb
        have HUB := Aside0.mk hub
        rw [← hxb] at HNB5
        rw [← hxb]
        have HXC := Aside0.mk (show xb ≠ cb by have := HG.out.cur; omega)
        clear hw5 hal hnb hxb hub
        refine hKK.out _ _ HO5.out ?_
        clear hKK KK
        refine Go.Reg.step_w (fun KK hKK => ?_)
        go_wp2_with fail
        refine (take_no HGE.out.pc (sn : Int) HNO.out).mono ?_
        rintro z w6 ⟨rfl, hp, ho⟩
        have HO6 := Aside0.mk (HO5.out.trans ho)
        have HP6 := Aside0.mk hp
        have HNB := Aside0.mk ((ho.block xb (blk_lt HNB5.out) HXC.out).trans HNB5.out)
        clear hp ho
        go_wp2_with fail
        refine hKK.out _ _ HO6.out ?_
        clear hKK KK
        refine Go.Reg.lex_qp 1 _ _ _ _ _ (by rfl) ?_; simp only [List.take_succ_cons, List.take_zero, List.drop_succ_cons, List.drop_zero]; (repeat (go_big_quiet_step (rfl))); refine wpQuiet_nil ?_
        have e0 : w6.cell? ⟨xb, 0, none⟩ = some (.int .i64 0) := cell_blk HNB.out
        have e1 : w6.cell? ⟨xb, 1, none⟩ = some (.int .i64 0) := cell_blk HNB.out
        have e2 : w6.cell? ⟨xb, 2, none⟩ = some (.int .i64 0) := cell_blk HNB.out
        have e3 : w6.cell? ⟨xb, 3, none⟩ = some (.int .i64 0) := cell_blk HNB.out
        have e4 : w6.cell? ⟨xb, 4, none⟩ = some (.slice none 0 0) := cell_blk HNB.out
        have g0 : w6.frozen? ⟨xb, 0, none⟩ = false := frozen_blk HNB.out
        have g1 : w6.frozen? ⟨xb, 1, none⟩ = false := frozen_blk HNB.out
        have g2 : w6.frozen? ⟨xb, 2, none⟩ = false := frozen_blk HNB.out
        have g3 : w6.frozen? ⟨xb, 3, none⟩ = false := frozen_blk HNB.out
        have g4 : w6.frozen? ⟨xb, 4, none⟩ = false := frozen_blk HNB.out
        refine Go.Reg.step_x (by rfl) (fun KK hKK => ?_)
        go_wp2_with fail
        refine hKK.out _ _ ?_
        clear hKK KK
        try simp only [Act.put, List.setIfInBounds_toArray, List.set_cons_succ, List.set_cons_zero]
        refine Go.Reg.lex_nil ?_
        clear e0 e1 e2 e3 e4 g0 g1 g2 g3 g4
        go_wp2_with fail
        go_meet
        case rel =>
          exact ⟨xb, rfl, ⟨HG.out.only (sets5 HO6.out HUB.out _ _ _ _ _) (pc_other HP6.out HNB.out (five_but _ _ _ _ _))⟩⟩
      · rcases ho with ho | ho <;> (cases ho; rfl)
    case rest =>
      obtain ⟨xb, rfl, HG⟩ := hcut
      have HR5 := Aside0.mk (show r = (zeroS, 5) by rw [HQ.out, if_neg]; unfold okS; rw [HSZ.out, decide_eq_false (by have := HK48.out; omega), Bool.false_and]; decide)
      go_wp2_with fail
      refine (bad_any HG.out.pc).mono ?_
      rintro z w8 ⟨rfl, hw8⟩
      obtain rfl : w8 = wc := hw8
      have z0 : w8.cell? ⟨w.heap.size, 0, none⟩ = some (.int .i64 0) := cell_blk HG.out.zero
      have z1 : w8.cell? ⟨w.heap.size, 1, none⟩ = some (.int .i64 0) := cell_blk HG.out.zero
      have z2 : w8.cell? ⟨w.heap.size, 2, none⟩ = some (.int .i64 0) := cell_blk HG.out.zero
      have z3 : w8.cell? ⟨w.heap.size, 3, none⟩ = some (.int .i64 0) := cell_blk HG.out.zero
      have z4 : w8.cell? ⟨w.heap.size, 4, none⟩ = some (.slice none 0 0) := cell_blk HG.out.zero
      have f0 : w8.frozen? ⟨w.heap.size, 0, none⟩ = false := frozen_blk HG.out.zero
      have f1 : w8.frozen? ⟨w.heap.size, 1, none⟩ = false := frozen_blk HG.out.zero
      have f2 : w8.frozen? ⟨w.heap.size, 2, none⟩ = false := frozen_blk HG.out.zero
      have f3 : w8.frozen? ⟨w.heap.size, 3, none⟩ = false := frozen_blk HG.out.zero
      have f4 : w8.frozen? ⟨w.heap.size, 4, none⟩ = false := frozen_blk HG.out.zero
      go_wp2_with fail
      refine bodyPost_ret (results_ct rfl _ _ w.heap.size 69 #[.int .i64 0, .int .i64 0, .int .i64 0, .int .i64 0, .slice none 0 0] (0, 0) _ rfl (five_set HG.out.zero _ _ _ _ _) Try.underlying69 rfl (by kernel_rfl)) rfl ?_
      exact ⟨_, by rw [HR5.out]; rfl, by rw [HR5.out]; exact Kd.R_nil _ _ _ _ _, five_below HG.out.below (Nat.le_refl _) _ _ _ _ _⟩
end Sect
end Go.Proofs.Ytopfjmeejpamjaa
end
section
namespace Go.Proofs.Ytopfjmeejpamjaa
set_option linter.unusedVariables false
set_option linter.unusedSimpArgs false
set_option linter.ambiguousOpen false
open Go.RowKit Go.Proofs.YtopfjmeejpamjaaW.PrintWords Go.Proofs.YtopfjmeejpamjaaW.PrintLast Go.Proofs.YtopfjmeejpamjaaW.PrintMore
namespace Sect
open Go.Num Go.Crc Go.Proofs.Ytopfjmeejpamjaa.Cell
theorem put_body {k e n l : Int} {d : List Int} (h : secOk k e n l d = true) : putS k e n l d = (sealB (bodyS k e n l d), 0) := by unfold putS; rw [if_pos h]
theorem body_eq (k e n l : Int) (d : List Int) : bodyS k e n l d = leB k 1 ++ (leB (d.length : Int) 1 ++ (leB l 2 ++ (leB e 4 ++ (leB n 4 ++ (d ++ List.replicate (48 - d.length) 0))))) := by
  unfold bodyS headS
  simp
theorem num_le (v : Int) (j : Nat) (h0 : 0 ≤ v) (h1 : v ≤ 2147483647) (hj1 : 1 ≤ j) (hj : j ≤ 4) (hs : v < 256 ^ j) : numP (leB v j) = v := by
  unfold numP
  rw [unfix_le v h0 h1 j hj1 hj hs]
  rfl
theorem num_of (ys : List Int) (hb : ∀ x ∈ ys, 0 ≤ x ∧ x ≤ 255) (j : Nat) (hl : ys.length = j) (h : 0 ≤ numP ys) : (unfixP ys).2 = 0 ∧ numP ys = (unfixP ys).1 ∧ leB (numP ys) j = ys := by
  have h2 : (unfixP ys).2 = 0 := Classical.byContradiction (fun e => by
    unfold numP at h
    rw [if_pos e] at h
    omega)
  have h3 : numP ys = (unfixP ys).1 := by unfold numP; rw [if_neg (by simp [h2])]
  exact ⟨h2, h3, by rw [h3]; exact unfix_leB ys hb j hl h2⟩
theorem raw_body (k e n l : Int) (d : List Int) (h : secOk k e n l d = true) : rawS (bodyS k e n l d) = ⟨k, e, n, l, d⟩ ∧ okS (bodyS k e n l d) = true := by
  obtain ⟨h1, h2, h3, h4, h5, h6, h7, h8, h9⟩ := ok_parts h
  obtain ⟨B, hB⟩ : ∃ B, B = bodyS k e n l d := ⟨_, rfl⟩
  rw [← hB]
  rw [body_eq] at hB
  have p1 : (256 : Int) ^ 1 = 256 := by decide
  have p : (256 : Int) ^ 2 = 65536 := by decide
  have p4 : (256 : Int) ^ 4 = 4294967296 := by decide
  obtain ⟨a1, b1⟩ := cut2 1 hB (leB_len _ _)
  obtain ⟨a2, b2⟩ := cut2 1 b1 (leB_len _ _)
  obtain ⟨a3, b3⟩ := cut2 2 b2 (leB_len _ _)
  obtain ⟨a4, b4⟩ := cut2 4 b3 (leB_len _ _)
  obtain ⟨a5, b5⟩ := cut2 4 b4 (leB_len _ _)
  obtain ⟨a6, b6⟩ := cut2 d.length b5 rfl
  simp only [List.drop_drop] at a2 a3 a4 a5 a6 b6
  have hs : sizeS B = (d.length : Int) := by
    unfold sizeS
    rw [a2, num_le _ 1 (by omega) (by omega) (by omega) (by omega) (by omega)]
  have hr : rawS B = ⟨k, e, n, l, d⟩ := by
    unfold rawS
    rw [hs, Int.toNat_natCast, List.drop_zero, a1, show (B.drop 12).take d.length = d from a6, show (B.drop 2).take 2 = leB l 2 from a3, show (B.drop 4).take 4 = leB e 4 from a4, show (B.drop 8).take 4 = leB n 4 from a5, num_le k 1 (by omega) (by omega) (by omega) (by omega) (by omega), num_le l 2 (by omega) (by omega) (by omega) (by omega) (by omega), num_le e 4 (by omega) (by omega) (by omega) (by omega) (by omega), num_le n 4 (by omega) (by omega) (by omega) (by omega) (by omega)]
  refine ⟨hr, ?_⟩
  unfold okS
  rw [hr, hs, Int.toNat_natCast, h, decide_eq_true (by omega)]
  have e : B.drop (12 + d.length) = List.replicate (48 - d.length) 0 := by
    rw [← b6]
  rw [e, maxL_rep]
  rfl
theorem get_put (k e n l : Int) (d : List Int) (h : secOk k e n l d = true) : getS (putS k e n l d).1 = (⟨k, e, n, l, d⟩, 0) := by
  obtain ⟨h1, h2⟩ := raw_body k e n l d h
  rw [put_body h]
  unfold getS
  rw [if_neg (by rw [seal_len, bodyS_len _ _ _ _ _ (ok_parts h).2.2.2.2.2.2.2.2]; decide), open_seal, if_neg (by simp), if_pos h2, h1]
theorem own_len {l : List Int} (hl : l.length = 64) (h : (openP l).2 = 0) : (openP l).1.length = 60 := by rw [(open_len l h).1, List.length_take, hl]; omega
theorem body_raw (own : List Int) (hl : own.length = 60) (hb : ∀ x ∈ own, 0 ≤ x ∧ x ≤ 255) (hs : sizeS own ≤ 48) (hc : secOk (rawS own).k (rawS own).e (rawS own).n (rawS own).l (rawS own).d = true) :
    bodyS (rawS own).k (rawS own).e (rawS own).n (rawS own).l (rawS own).d = own ↔ maxL (own.drop (12 + (sizeS own).toNat)) = 0 := by
  obtain ⟨h1, h2, h3, h4, h5, h6, h7, h8, h9⟩ := ok_parts hc
  have hlen : ∀ i j : Nat, i + j ≤ 60 → ((own.drop i).take j).length = j := fun i j h => by rw [List.length_take, List.length_drop, hl]; omega
  have hz1 := unfix1 ((own.drop 1).take 1) (hlen 1 1 (by omega)) (take_byte hb 1 1)
  have hsz : sizeS own = unB ((own.drop 1).take 1) := by unfold sizeS numP; rw [hz1.1]; rfl
  have g0 : leB (rawS own).k 1 = (own.drop 0).take 1 := (num_of _ (take_byte hb 0 1) 1 (hlen 0 1 (by omega)) (by show 0 ≤ (rawS own).k; omega)).2.2
  have g1 : leB (sizeS own) 1 = (own.drop 1).take 1 := (num_of _ (take_byte hb 1 1) 1 (hlen 1 1 (by omega)) (by show 0 ≤ sizeS own; rw [hsz]; exact hz1.2.1)).2.2
  have g2 : leB (rawS own).l 2 = (own.drop 2).take 2 := (num_of _ (take_byte hb 2 2) 2 (hlen 2 2 (by omega)) (by show 0 ≤ (rawS own).l; omega)).2.2
  have g4 : leB (rawS own).e 4 = (own.drop 4).take 4 := (num_of _ (take_byte hb 4 4) 4 (hlen 4 4 (by omega)) (by show 0 ≤ (rawS own).e; omega)).2.2
  have g8 : leB (rawS own).n 4 = (own.drop 8).take 4 := (num_of _ (take_byte hb 8 4) 4 (hlen 8 4 (by omega)) (by show 0 ≤ (rawS own).n; omega)).2.2
  have hsr : 0 ≤ sizeS own := by rw [hsz]; exact hz1.2.1
  have hdl : (rawS own).d.length = (sizeS own).toNat := by
    unfold rawS
    rw [List.length_take, List.length_drop, hl]
    omega
  have hds : ((rawS own).d.length : Int) = sizeS own := by rw [hdl]; omega
  have hsplit : own = (own.drop 0).take 1 ++ ((own.drop 1).take 1 ++ ((own.drop 2).take 2 ++ ((own.drop 4).take 4 ++ ((own.drop 8).take 4 ++ ((rawS own).d ++ own.drop (12 + (sizeS own).toNat)))))) := by
    have s0 : own.drop 0 = (own.drop 0).take 1 ++ own.drop 1 := by rw [show own.drop 1 = (own.drop 0).drop 1 by rw [List.drop_drop], List.take_append_drop]
    have s1 : own.drop 1 = (own.drop 1).take 1 ++ own.drop 2 := by rw [show own.drop 2 = (own.drop 1).drop 1 by rw [List.drop_drop], List.take_append_drop]
    have s2 : own.drop 2 = (own.drop 2).take 2 ++ own.drop 4 := by rw [show own.drop 4 = (own.drop 2).drop 2 by rw [List.drop_drop], List.take_append_drop]
    have s4 : own.drop 4 = (own.drop 4).take 4 ++ own.drop 8 := by rw [show own.drop 8 = (own.drop 4).drop 4 by rw [List.drop_drop], List.take_append_drop]
    have s8 : own.drop 8 = (own.drop 8).take 4 ++ own.drop 12 := by rw [show own.drop 12 = (own.drop 8).drop 4 by rw [List.drop_drop], List.take_append_drop]
    have s12 : own.drop 12 = (rawS own).d ++ own.drop (12 + (sizeS own).toNat) := by
      unfold rawS
      rw [← List.drop_drop, List.take_append_drop]
    rw [← s12, ← s8, ← s4, ← s2, ← s1, ← s0, List.drop_zero]
  rw [body_eq, g0, g2, g4, g8, hds, g1]
  have hrl : (own.drop (12 + (sizeS own).toNat)).length = 48 - (rawS own).d.length := by
    rw [List.length_drop, hl, hdl]; omega
  constructor
  · intro h
    have h' := List.append_cancel_left (List.append_cancel_left (List.append_cancel_left (List.append_cancel_left (List.append_cancel_left (List.append_cancel_left (h.trans hsplit))))))
    rw [← h', maxL_rep]
  · intro h
    have hz := all_zero _ (fun x hx => hb x (List.mem_of_mem_drop hx)) h
    rw [hrl] at hz
    rw [← hz, ← hsplit]
theorem okS_iff (own : List Int) (hl : own.length = 60) (hb : ∀ x ∈ own, 0 ≤ x ∧ x ≤ 255) :
    okS own = true ↔ (unfixP ((own.drop 4).take 4)).2 = 0 ∧ (unfixP ((own.drop 8).take 4)).2 = 0 ∧ sizeS own ≤ 48 ∧ (putS (rawS own).k (rawS own).e (rawS own).n (rawS own).l (rawS own).d).2 = 0 ∧ (putS (rawS own).k (rawS own).e (rawS own).n (rawS own).l (rawS own).d).1 = sealB own := by
  have hlen : ∀ i j : Nat, i + j ≤ 60 → ((own.drop i).take j).length = j := fun i j h => by rw [List.length_take, List.length_drop, hl]; omega
  constructor
  · intro h
    unfold okS at h
    simp only [Bool.and_eq_true, decide_eq_true_eq] at h
    obtain ⟨h1, h2, h3⟩ := h
    obtain ⟨q1, q2, q3, q4, q5, q6, q7, q8, q9⟩ := ok_parts h2
    have e4 := (num_of _ (take_byte hb 4 4) 4 (hlen 4 4 (by omega)) (show 0 ≤ (rawS own).e by omega)).1
    have e8 := (num_of _ (take_byte hb 8 4) 4 (hlen 8 4 (by omega)) (show 0 ≤ (rawS own).n by omega)).1
    refine ⟨e4, e8, h1, ?_, ?_⟩
    · rw [put_body h2]
    · rw [put_body h2, (body_raw own hl hb h1 h2).2 h3]
  · rintro ⟨_, _, h1, h2, h3⟩
    have hc : secOk (rawS own).k (rawS own).e (rawS own).n (rawS own).l (rawS own).d = true := by
      by_cases h : secOk (rawS own).k (rawS own).e (rawS own).n (rawS own).l (rawS own).d = true
      · exact h
      · unfold putS at h2
        rw [if_neg h] at h2
        cases h2
    rw [put_body hc] at h3
    have := (body_raw own hl hb h1 hc).1 (seal_inj h3)
    unfold okS
    rw [decide_eq_true h1, hc, decide_eq_true this]
    rfl
theorem put_get (l : List Int) (hb : ∀ x ∈ l, 0 ≤ x ∧ x ≤ 255) (h : (getS l).2 = 0) : putS (getS l).1.k (getS l).1.e (getS l).1.n (getS l).1.l (getS l).1.d = (l, 0) := by
  unfold getS at *
  split at h
  · cases h
  · rename_i hl
    rw [if_neg hl]
    split at h
    · rename_i h2; exact absurd h h2
    · rename_i h2
      rw [if_neg h2]
      have h2' : (openP l).2 = 0 := Classical.not_not.1 h2
      split at h
      · rename_i h3
        rw [if_pos h3]
        obtain ⟨_, _, _, h4, h5⟩ := (okS_iff _ (own_len (Classical.not_not.1 hl) h2') (own_byte hb h2')).1 h3
        rw [← open_ok l h2'] at h5
        exact Prod.ext h5 h4
      · cases h
end Sect
end Go.Proofs.Ytopfjmeejpamjaa
end
