/- Part 7 of the proof of SuperGets: lemmas alone. -/
import Derived.Test.YtopfjmeejpamjaaZSuperGetsP5
import Derived.Test.YtopfjmeejpamjaaProg
import Derived.Laws.LoneSync
import Derived.Below
import Derived.Lib.Hide
import Derived.OwnWalk
import Derived.WalkKit
import Derived.KernelRfl
import Derived.RowKit3
import Derived.Deep.LoopGhost
import Derived.Deep.QuietTactic
import Derived.BigQuiet
import Derived.WideLaws
import Derived.Outline
import Derived.Deep.DeepCutAuto
import Derived.WalkSpells
import Derived.RegionTactic
import Derived.BigRegion
import Derived.WalkLawsBesides
import Derived.Great.BuildSlice
import Derived.Deep.Slices
import Derived.RangeFuncNested
import Derived.RangeFuncBound
import Derived.RangeFuncCalls
import Derived.RangeFuncLeaves
import Derived.Shelf.Abstract
import Derived.Shelf.RegionOpen
import Derived.OwnWalkIn
import Derived.TacticsInMore
import Derived.LoopNIn
import Derived.LoopIn
section
namespace Go.Proofs.Ytopfjmeejpamjaa
set_option linter.unusedVariables false
set_option linter.unusedSimpArgs false
set_option linter.ambiguousOpen false
open Go.RowKit Go.Proofs.YtopfjmeejpamjaaW.PrintWords Go.Proofs.YtopfjmeejpamjaaW.PrintLast Go.Proofs.YtopfjmeejpamjaaW.PrintMore
namespace Supr
open Go.Num Go.Crc Go.Proofs.Ytopfjmeejpamjaa.Cell Go.Proofs.Ytopfjmeejpamjaa.Sect
def num4 (d : List Int) (j : Nat) : Int × Int := unfixP ((d.drop (4 * j)).take 4)
theorem numP4 (d : List Int) (j : Nat) : numP ((d.drop (4 * j)).take 4) = if (num4 d j).2 ≠ 0 then -1 else (num4 d j).1 := rfl
theorem chunk4 (d : List Int) (hl : d.length = 16) (hb : ∀ x ∈ d, 0 ≤ x ∧ x ≤ 255) (j : Nat) (hj : j < 4) (h : 0 ≤ numP ((d.drop (4 * j)).take 4)) : leB (numP ((d.drop (4 * j)).take 4)) 4 = (d.drop (4 * j)).take 4 :=
  (num_of _ (take_byte hb _ _) 4 (by rw [List.length_take, List.length_drop, hl]; omega) h).2.2
theorem data_of (x : Sec) (hl : x.d.length = 16) (hb : ∀ y ∈ x.d, 0 ≤ y ∧ y ≤ 255) (hs : (ofSec x).ok = true) : dataU (ofSec x).l (ofSec x).p (ofSec x).q (ofSec x).o = x.d := by
  have hr := supOk_range hs
  have e0 := chunk4 x.d hl hb 0 (by decide) (by have : 1 ≤ numP ((x.d.drop (4 * 0)).take 4) := hr.2.2.2.2.1; omega)
  have e1 := chunk4 x.d hl hb 1 (by decide) hr.2.2.2.2.2.2.1
  have e2 := chunk4 x.d hl hb 2 (by decide) hr.2.2.2.2.2.2.2.2.1
  have e3 := chunk4 x.d hl hb 3 (by decide) hr.2.2.2.2.2.2.2.2.2.2.1
  have hd : x.d = (x.d.drop (4 * 0)).take 4 ++ ((x.d.drop (4 * 1)).take 4 ++ ((x.d.drop (4 * 2)).take 4 ++ (x.d.drop (4 * 3)).take 4)) := by
    have a3 : (x.d.drop (4 * 3)).take 4 = x.d.drop 12 := List.take_of_length_le (by rw [List.length_drop, hl]; omega)
    have a2 : (x.d.drop (4 * 2)).take 4 ++ x.d.drop 12 = x.d.drop 8 := by
      have := List.take_append_drop 4 (x.d.drop 8)
      rw [List.drop_drop] at this
      exact this
    have a1 : (x.d.drop (4 * 1)).take 4 ++ x.d.drop 8 = x.d.drop 4 := by
      have := List.take_append_drop 4 (x.d.drop 4)
      rw [List.drop_drop] at this
      exact this
    rw [a3, a2, a1]
    exact (List.take_append_drop 4 x.d).symm
  unfold dataU
  show leB (numP ((x.d.drop (4 * 0)).take 4)) 4 ++ (leB (numP ((x.d.drop (4 * 1)).take 4)) 4 ++ (leB (numP ((x.d.drop (4 * 2)).take 4)) 4 ++ leB (numP ((x.d.drop (4 * 3)).take 4)) 4)) = x.d
  rw [e0, e1, e2, e3]
  exact hd.symm
theorem getU_yes (l : List Int) (hb : ∀ x ∈ l, 0 ≤ x ∧ x ≤ 255) (h0 : (getS l).2 = 0) (hd : (getS l).1.d.length = 16) : getU l = if (ofSec (getS l).1).put.2 = 0 ∧ (ofSec (getS l).1).put.1 = l then (ofSec (getS l).1, 0) else (zeroU, 5) := by
  obtain ⟨x, hx⟩ : ∃ x, x = (getS l).1 := ⟨_, rfl⟩
  have hxb := get_byte l hb
  have hpg := put_get l hb h0
  unfold getU
  rw [← hx] at hd hxb hpg ⊢
  rw [if_neg (by rw [h0]; decide)]
  by_cases hs : (ofSec x).ok = true
  · have hdd := data_of x hd hxb hs
    have hp : (ofSec x).put = putS 1 x.e x.n 0 x.d := by
      show putU _ _ _ _ _ _ = _
      unfold putU
      rw [if_pos hs, hdd]
      rfl
    by_cases h1 : x.k = 1 ∧ x.l = 0
    · rw [if_pos ⟨hd, h1.1, h1.2, hs⟩, if_pos]
      rw [h1.1, h1.2] at hpg
      rw [hp, hpg]
      exact ⟨rfl, rfl⟩
    · rw [if_neg (fun h => h1 ⟨h.2.1, h.2.2.1⟩), if_neg]
      rintro ⟨_, h2⟩
      have hsec := secU hs
      rw [hdd] at hsec
      have hg := get_put 1 x.e x.n 0 x.d hsec
      rw [← hp, h2] at hg
      have hk : x = ⟨1, x.e, x.n, 0, x.d⟩ := by rw [hx, hg]
      exact h1 ⟨by rw [hk], by rw [hk]⟩
  · rw [if_neg (fun h => hs h.2.2.2), if_neg]
    rintro ⟨h1, _⟩
    have : (ofSec x).put.2 = 1 := by
      show (putU _ _ _ _ _ _).2 = 1
      rw [put_code, if_neg hs]
    omega
theorem getU_no (l : List Int) (h0 : (getS l).2 = 0) (hn : (getS l).1.d.length ≠ 16 ∨ ∃ j, j < 4 ∧ (num4 (getS l).1.d j).2 ≠ 0) : getU l = (zeroU, 5) := by
  unfold getU
  rw [if_neg (by rw [h0]; decide), if_neg]
  rintro ⟨hd, _, _, hs⟩
  rcases hn with hn | ⟨j, hj, hc⟩
  · exact hn hd
  · have hr := supOk_range hs
    have hm := numP4 (getS l).1.d j
    rw [if_pos hc] at hm
    rcases (show j = 0 ∨ j = 1 ∨ j = 2 ∨ j = 3 by omega) with rfl | rfl | rfl | rfl
    · have h := hr.2.2.2.2.1
      rw [show (ofSec (getS l).1).l = -1 from hm] at h
      omega
    · have h := hr.2.2.2.2.2.2.1
      rw [show (ofSec (getS l).1).p = -1 from hm] at h
      omega
    · have h := hr.2.2.2.2.2.2.2.2.1
      rw [show (ofSec (getS l).1).q = -1 from hm] at h
      omega
    · have h := hr.2.2.2.2.2.2.2.2.2.2.1
      rw [show (ofSec (getS l).1).o = -1 from hm] at h
      omega
theorem putU_get (l : List Int) (hb : ∀ x ∈ l, 0 ≤ x ∧ x ≤ 255) (h : (getU l).2 = 0) : (getU l).1.put = (l, 0) ∧ (getU l).1.ok = true := by
  by_cases h0 : (getS l).2 = 0
  · by_cases hd : (getS l).1.d.length = 16
    · have hg := getU_yes l hb h0 hd
      by_cases hc : (ofSec (getS l).1).put.2 = 0 ∧ (ofSec (getS l).1).put.1 = l
      · rw [if_pos hc] at hg
        rw [hg]
        refine ⟨Prod.ext hc.2 hc.1, ?_⟩
        show (ofSec (getS l).1).ok = true
        have h2 := hc.1
        rw [show (ofSec (getS l).1).put.2 = _ from put_code _ _ _ _ _ _] at h2
        by_cases hs : (ofSec (getS l).1).ok = true
        · exact hs
        · rw [if_neg hs] at h2
          omega
      · rw [if_neg hc] at hg
        rw [hg] at h
        exact absurd h (by decide)
    · rw [getU_no l h0 (.inl hd)] at h
      exact absurd h (by decide)
  · unfold getU at h
    rw [if_pos h0] at h
    exact absurd h h0
end Supr
end Go.Proofs.Ytopfjmeejpamjaa
end
section
namespace Go.Reg
set_option linter.unusedVariables false
set_option linter.unusedSimpArgs false
open Go
variable {P : Program} {ops : Array Oper} {md : Region.Mode} {CT : Bool → World → Prop} {QT : Act → Bool → Prop}
def good (P : Program) (CT : Bool → World → Prop) (t : Bool) (o : Oper) (a : Act) (v : Value) : Prop := ∀ d w, CT d w → o.wp P a w (fun a' w' => a' = a.put o.dst v ∧ CT (d || t) w') NoX
variable {ts : Nat → Bool}
end Go.Reg
end
section
namespace Go.Proofs.Ytopfjmeejpamjaa.PDiskDoes
open Go.RowKit Go.Proofs.YtopfjmeejpamjaaW.PrintWords Go.Proofs.YtopfjmeejpamjaaW.PrintLast Go.Proofs.YtopfjmeejpamjaaW.PrintMore
attribute [local go_sem] max2_int min2_int max_two min_two max_three min_three max_four min_four
set_option linter.unusedVariables false
set_option linter.unusedSimpArgs false
set_option linter.ambiguousOpen false
open Go.Proofs.Ytopfjmeejpamjaa.PSuper
def disk_blocks.f (a0 : Int) : Option (Bool) := if a0 ≥ 16 then (some (decide (a0 ≤ 1024))) else (some false)
set_option maxHeartbeats 8000000 in
set_option maxRecDepth 100000 in
theorem disk_blocks.calls (a0 : Int) (r : Bool) (w : World) (h : disk_blocks.f a0 = some r) :
    Calls Try.prog 44 #[.int .i64 a0] w fun e w' => e = .returned (.bool r) ∧ Drawn0 w w' := by
  have H : (if a0 ≥ 16 then (some (decide (a0 ≤ 1024))) else (some false)) = some r := h
  clear h
  by_cases c2 : a0 ≥ 16
  · rw [if_pos c2] at H
    have c2b0 : decide (16 ≤ a0) = true := decide_eq_true c2
    clear c2
    obtain rfl := Option.some.inj H
    go_enter Try.func44, Try.ntmps44
    go_wp2
    go_ret
    exact ⟨by first | rfl | (simp; done) | (simp [*]; done), by repeat (first | exact Drawn0.refl _ | apply Drawn0.step)⟩
  · rw [if_neg c2] at H
    have c2b0 : decide (16 ≤ a0) = false := decide_eq_false c2
    clear c2
    obtain rfl := Option.some.inj H
    go_enter Try.func44, Try.ntmps44
    go_wp2
    go_ret
    exact ⟨by first | rfl | (simp; done) | (simp [*]; done), by repeat (first | exact Drawn0.refl _ | apply Drawn0.step)⟩
def chantrylaw06_Block.l0 : Nat → List Int → List Int → Int → Option (List Int)
  | 0, _, _, _ => none
  | k + 1, x0, x3, x4 => if x4 < 256 then (if (x0.length : Int) > 0 then (if (x0.length : Int) = 0 then (none) else (if 0 ≤ (Int.tmod x4 (x0.length : Int)) then (if (Int.tmod x4 (x0.length : Int)) < (x0.length : Int) then (if 0 ≤ x4 then (if x4 < (x3.length : Int) then (chantrylaw06_Block.l0 k x0 (x3.set (x4 : Int).toNat (rd x0 (Int.tmod x4 (x0.length : Int)))) (wrap64 (x4 + 1))) else (none)) else (none)) else (none)) else (none))) else (some x3)) else (some x3)
def chantrylaw06_Block.f (k : Nat) (l0 : List Int) : Option (List Int) := if 256 ≤ 281474976710656 then (chantrylaw06_Block.l0 k l0 (List.replicate 256 0) 0) else (none)
theorem chantrylaw06_Block.mono_l : ∀ k, (∀ y0 y1 y2, LeO (chantrylaw06_Block.l0 k y0 y1 y2) (chantrylaw06_Block.l0 (k + 1) y0 y1 y2))
  | 0 => fun _ _ _ r h => by simp [chantrylaw06_Block.l0] at h
  | k + 1 => by
    have ih0 := chantrylaw06_Block.mono_l k
    · intro y0 y1 y2
      unfold chantrylaw06_Block.l0
      repeat' first
      | (with_reducible exact ih0 _ _ _)
      | (with_reducible exact LeO.refl _)
      | (with_reducible exact LeO.none _)
      | (with_reducible refine LeO.ite ?_ ?_)
      | (with_reducible refine LeO.bind ?_ (fun _ => ?_))
      | exact ih0 _ _ _
      | exact LeO.none _
      | refine LeO.ite ?_ ?_
      | refine LeO.bind ?_ (fun _ => ?_)
theorem chantrylaw06_Block.mono : ∀ a0 k, LeO (chantrylaw06_Block.f k a0) (chantrylaw06_Block.f (k + 1) a0) := by
  intro a0 k
  have ih0 := chantrylaw06_Block.mono_l k
  unfold chantrylaw06_Block.f
  repeat' first
      | (with_reducible exact ih0 _ _ _)
      | (with_reducible exact LeO.refl _)
      | (with_reducible exact LeO.none _)
      | (with_reducible refine LeO.ite ?_ ?_)
      | (with_reducible refine LeO.bind ?_ (fun _ => ?_))
      | exact ih0 _ _ _
      | exact LeO.none _
      | refine LeO.ite ?_ ?_
      | refine LeO.bind ?_ (fun _ => ?_)
set_option maxHeartbeats 8000000 in
set_option maxRecDepth 100000 in
theorem chantrylaw06_Block.calls (k : Nat) (A0 : Option Addr) (c0 : Nat) (l0 : List Int) (r : List Int) (w : World) (hr0 : Kd.C (Kd.int .u8) w A0 l0.length l0) (hc0 : l0.length ≤ c0) (h : chantrylaw06_Block.f k l0 = some r) :
    Calls Try.prog 41 #[.slice A0 l0.length c0] w fun e w' => ∃ v0_ : Value, e = .returned (v0_) ∧ Kd.R (Kd.int .u8) 5 w' w.heap.size (fun _ => True) v0_ r ∧ Below w.heap.size w w' := by
  have HR0 := Aside0.mk hr0
  have HC0 := Aside0.mk hc0
  clear hr0 hc0
  have HB := Aside0.mk (Below.refl w.heap.size w)
  have H : (if 256 ≤ 281474976710656 then (chantrylaw06_Block.l0 k l0 (List.replicate 256 0) 0) else (none)) = some r := h
  clear h
  by_cases c2 : 256 ≤ 281474976710656
  · rw [if_pos c2] at H
    have c2b0 := eq_true c2
    have c2b1 : decide (256 ≤ 281474976710656) = true := decide_eq_true c2
    clear c2
    obtain ⟨y150, hy150⟩ : ∃ y_ : List Int, y_ = (List.replicate 256 0) := ⟨_, rfl⟩
    replace H : (chantrylaw06_Block.l0 k l0 y150 0) = some r := by first | (rw [hy150]; with_reducible exact H) | (have H2_ := (Option.bind_some _ _).symm.trans H; rw [hy150]; with_reducible exact H2_) | (have H2_ := (Option.bind_some _ _).symm.trans H; with_reducible exact H2_) | with_reducible exact H | (rw [hy150]; exact H) | exact H
    have Ny150 := Aside0.mk hy150
    clear hy150
    have H' := Aside0.mk H
    clear H
    go_enter Try.func41, Try.ntmps41
    go_wp2_with (first | ((with_reducible refine gate_dst (N := 5) rfl ?_); (try (refine gate_guard (by rfl) ?_; dsimp only)); refine Kd.R_make (Kd.int .u8) _ 5 rfl (N := 5) rfl 26 _ _ rfl 256 rfl rfl Try.underlying26 (.int .u8 0) 1 info5 rfl (by decide) (by omega) 0 (ok := fun _ => True) (okp := fun _ => True) rfl (fun _ hk => hk) trivial (by omega) (by omega) (Below.refl _ _) (Nat.le_refl _) ?_; intro v151 w3 ho4 hb hg_ hnew_; clear hg_ hnew_; (first | rw [← Ny150.out] at ho4 | (simp only [Int.reduceToNat] at ho4; rw [← Ny150.out] at ho4)); have n0_ := Aside0.mk (Kd.R_lower ho4 (below_size (by repeat (first | (with_reducible first | exact HB.out | apply below_alloc | apply pw_below_drewN | apply below_drew1) | exact HB.out)))); have n1_ := Aside0.mk (below_step (by repeat (first | (with_reducible first | exact HB.out | apply below_alloc | apply pw_below_drewN | apply below_drew1) | exact HB.out)) hb); clear HB; have HO152 := n0_; have HB := n1_; clear n0_ n1_; clear hb ho4))
    go_loopg [4] k (fun kq v4 w' => ∃ (x3_1 : List Int) (x4_1 : Int), v4 = .int .i64 x4_1 ∧ Aside0 (chantrylaw06_Block.l0 kq l0 x3_1 x4_1 = some r) ∧ Aside0 (kq ≤ k) ∧ Aside0 (Kd.R (Kd.int .u8) 5 w' w.heap.size (fun _ => True) v151 x3_1) ∧ Aside0 (Below w.heap.size w w'))
    case atStart => exact ⟨(y150), (0), (by first | rfl | (simp; done) | (simp [*]; done)), H', ⟨Nat.le_refl _⟩, ⟨by (with_reducible repeat (first | apply Kd.R_alloc | apply Kd.R_drewN | apply Kd.R_drew)); exact HO152.out⟩, ⟨by repeat (first | (with_reducible first | exact HB.out | apply below_alloc | apply pw_below_drewN | apply below_drew1) | exact HB.out)⟩⟩
    case round =>
      clear H'
      try clear c2
      try clear c2b0
      try clear c2b1
      try clear p2
      try clear c4
      obtain ⟨x3_1, x4_1, rfl, HA, HK1, HO_3, HB⟩ := hrel
      cases gk with
      | zero => exact absurd HA.out (by simp [chantrylaw06_Block.l0])
      | succ k1 =>
        have H := HA.out
        clear HA
        simp only [chantrylaw06_Block.l0] at H
        by_cases c5 : x4_1 < 256
        · rw [if_pos c5] at H
          have c5b0 : decide (x4_1 < 256) = true := decide_eq_true c5
          clear c5
          by_cases c6 : (l0.length : Int) > 0
          · rw [if_pos c6] at H
            have c6b0 : decide (0 < (l0.length : Int)) = true := decide_eq_true c6
            have c6b1 : decide (0 < l0.length) = true := decide_eq_true (by omega)
            clear c6
            by_cases c7 : (l0.length : Int) = 0
            · rw [if_pos c7] at H
              exact absurd H (by simp)
            · rw [if_neg c7] at H
              have c7b0 : ((l0.length : Int) == 0) = false := beq_eq_false_iff_ne.mpr c7
              have c7b1 : ((l0.length : Int) != 0) = true := bne_iff_ne.mpr c7
              have c7b2 : ¬ (l0 = []) := fun h_ => c7 (by rw [h_]; rfl)
              obtain ⟨ji8, hji8⟩ : ∃ j_ : Int, (Int.tmod x4_1 (l0.length : Int)) = j_ := ⟨_, rfl⟩
              replace H : (if 0 ≤ (ji8) then (if (ji8) < (l0.length : Int) then (if 0 ≤ x4_1 then (if x4_1 < (x3_1.length : Int) then (chantrylaw06_Block.l0 k1 l0 (x3_1.set (x4_1 : Int).toNat (rd l0 (ji8))) (wrap64 (x4_1 + 1))) else (none)) else (none)) else (none)) else (none)) = some r := by first | (rw [hji8] at H; exact H) | (simp only [hji8] at H ⊢; exact H)
              by_cases c9 : 0 ≤ (ji8)
              · rw [if_pos c9] at H
                have c9b0 : decide (0 ≤ (ji8)) = true := decide_eq_true c9
                clear c9
                by_cases c10 : (ji8) < (l0.length : Int)
                · rw [if_pos c10] at H
                  have c10b0 : decide ((ji8) < (l0.length : Int)) = true := decide_eq_true c10
                  clear c10
                  by_cases c11 : 0 ≤ x4_1
                  · rw [if_pos c11] at H
                    have c11b0 : decide (0 ≤ x4_1) = true := decide_eq_true c11
                    clear c11
                    by_cases c12 : x4_1 < (x3_1.length : Int)
                    · rw [if_pos c12] at H
                      have c12b0 : decide (x4_1 < (x3_1.length : Int)) = true := decide_eq_true c12
                      clear c12
                      obtain ⟨y154, hy154⟩ : ∃ y_ : List Int, y_ = (x3_1.set (x4_1 : Int).toNat (rd l0 (ji8))) := ⟨_, rfl⟩
                      replace H : (chantrylaw06_Block.l0 k1 l0 y154 (wrap64 (x4_1 + 1))) = some r := by first | (rw [hy154]; with_reducible exact H) | (have H2_ := (Option.bind_some _ _).symm.trans H; rw [hy154]; with_reducible exact H2_) | (have H2_ := (Option.bind_some _ _).symm.trans H; with_reducible exact H2_) | with_reducible exact H | (rw [hy154]; exact H) | exact H
                      have Ny154 := Aside0.mk hy154
                      clear hy154
                      have H' := Aside0.mk H
                      clear H
                      have p153 : 0 ≤ ((ji8) : Int) := of_decide_eq_true (by first | (with_reducible assumption) | assumption)
                      have q153 : (ji8) < (l0.length : Int) := of_decide_eq_true (by first | (with_reducible assumption) | assumption)
                      obtain ⟨ad153, e153, hx153_0⟩ := Kd.at_int HR0.out (ji8) p153 q153
                      cases e153
                      replace hx153_0 := (HB.out.cell (World.block_lt_of_cell? w _ hx153_0)).trans hx153_0
                      replace p153 := eq_true p153
                      replace q153 := eq_true q153
                      have p13 : 0 ≤ (x4_1 : Int) := of_decide_eq_true (by first | (with_reducible assumption) | assumption)
                      have q13 : (x4_1 : Int) < ((x3_1.length : Int) : Int) := of_decide_eq_true (by first | (with_reducible assumption) | assumption)
                      obtain ⟨go13, co13, eo13, gb13, gl13, cl13, HG13⟩ := Kd.R_form HO_3.out (by omega)
                      (first | cases eo13 | (injection eo13 with ea_ en_ ec_; (first | subst ea_ | (injection ea_ with ea_; subst ea_)); subst ec_; clear en_))
                      have GB13 := Aside0.mk gb13
                      have GG13 := Aside0.mk HG13
                      clear gb13 gl13 HG13
                      obtain ⟨hx13_0, hf13_0⟩ := Kd.R_celln 0 HO_3.out (x4_1 : Int) p13 q13
                      replace p13 := eq_true p13
                      replace q13 := eq_true q13
                      have HP14 := Kd.R_putg HO_3.out (x4_1 : Int) (rd l0 (ji8))
                      go_wp2_with (first | ((with_reducible refine gate_store (t := 5) (p := 24) rfl ?_); refine store_event (t := 5) (p := 24) (v := ?vo_w15) (w1 := (wr.setCell ⟨go13, (x4_1 : Int).toNat, none⟩ (.int .u8 (rd l0 (ji8))))) ?hg ?ho ?hn ?hr ?_; (case ho => rfl); (case hg => rfl); (case hn => rfl); (case hr => first | (go_simp; done) | (go_simp; rfl)); intro w15 hw; have hg : wr.grownBy w15 (some go13) := (by rw [hw]; exact HP14.2); have hp_ : Kd.R (Kd.int .u8) 5 w15 w.heap.size (fun _ => True) (.slice (some ⟨go13, 0, none⟩) x3_1.length co13) y154 := (by rw [hw, Ny154.out]; exact HP14.1); clear HP14; have n0_ := Aside0.mk (hp_); have n1_ := Aside0.mk ((by rw [hw]; exact below_set (HB.out) GB13.out : Below w.heap.size w w15)); clear HO_3; clear HB; have HO_3 := n0_; have HB := n1_; clear n0_ n1_; clear hg hw hp_))
                      go_roundg k1
                      case measure => have := HK1.out; omega
                      case rel => exact ⟨(y154), (wrap64 (x4_1 + 1)), (by first | rfl | (simp; done) | (simp [*]; done)), H', ⟨by have := HK1.out; omega⟩, ⟨by (with_reducible repeat (first | apply Kd.R_alloc | apply Kd.R_drewN | apply Kd.R_drew)); exact HO_3.out⟩, ⟨by repeat (first | (with_reducible first | exact HB.out | apply below_alloc | apply pw_below_drewN | apply below_drew1) | exact HB.out)⟩⟩
                    · rw [if_neg c12] at H
                      exact absurd H (by simp)
                  · rw [if_neg c11] at H
                    exact absurd H (by simp)
                · rw [if_neg c10] at H
                  exact absurd H (by simp)
              · rw [if_neg c9] at H
                exact absurd H (by simp)
          · rw [if_neg c6] at H
            have c6b0 : decide (0 < (l0.length : Int)) = false := decide_eq_false c6
            have c6b1 : decide (0 < l0.length) = false := decide_eq_false (by omega)
            clear c6
            obtain rfl := Option.some.inj H
            go_wp2
            go_ret
            exact ⟨_, by first | rfl | (simp [errW_none, errW_some] <;> rfl) | (simp [*, errW_none, errW_some] <;> rfl), by (with_reducible repeat (first | apply Kd.R_alloc | apply Kd.R_drewN | apply Kd.R_drew)); exact HO_3.out, by repeat (first | (with_reducible first | exact HB.out | apply below_alloc | apply pw_below_drewN | apply below_drew1) | exact HB.out)⟩
        · rw [if_neg c5] at H
          have c5b0 : decide (x4_1 < 256) = false := decide_eq_false c5
          clear c5
          obtain rfl := Option.some.inj H
          go_wp2
          go_ret
          exact ⟨_, by first | rfl | (simp [errW_none, errW_some] <;> rfl) | (simp [*, errW_none, errW_some] <;> rfl), by (with_reducible repeat (first | apply Kd.R_alloc | apply Kd.R_drewN | apply Kd.R_drew)); exact HO_3.out, by repeat (first | (with_reducible first | exact HB.out | apply below_alloc | apply pw_below_drewN | apply below_drew1) | exact HB.out)⟩
  · rw [if_neg c2] at H
    exact absurd H (by simp)
end Go.Proofs.Ytopfjmeejpamjaa.PDiskDoes
end
section
namespace Go.Proofs.Ytopfjmeejpamjaa.PDiskDoes
open Go.RowKit Go.Proofs.YtopfjmeejpamjaaW.PrintWords Go.Proofs.YtopfjmeejpamjaaW.PrintLast Go.Proofs.YtopfjmeejpamjaaW.PrintMore
attribute [local go_sem] max2_int min2_int max_two min_two max_three min_three max_four min_four
set_option linter.unusedVariables false
set_option linter.unusedSimpArgs false
set_option linter.ambiguousOpen false
open Go.Proofs.Ytopfjmeejpamjaa.PSuper
def chantryref06_may.f (a0 : Int) : Option (Bool) := if a0 ≥ 16 then (some (decide (a0 ≤ 1024))) else (some false)
set_option maxHeartbeats 8000000 in
set_option maxRecDepth 100000 in
theorem chantryref06_may.calls (a0 : Int) (r : Bool) (w : World) (h : chantryref06_may.f a0 = some r) :
    Calls Try.prog 52 #[.int .i64 a0] w fun e w' => e = .returned (.bool r) ∧ Drawn0 w w' := by
  have H : (if a0 ≥ 16 then (some (decide (a0 ≤ 1024))) else (some false)) = some r := h
  clear h
  by_cases c2 : a0 ≥ 16
  · rw [if_pos c2] at H
    have c2b0 : decide (16 ≤ a0) = true := decide_eq_true c2
    clear c2
    obtain rfl := Option.some.inj H
    go_enter Try.func52, Try.ntmps52
    go_wp2
    go_ret
    exact ⟨by first | rfl | (simp; done) | (simp [*]; done), by repeat (first | exact Drawn0.refl _ | apply Drawn0.step)⟩
  · rw [if_neg c2] at H
    have c2b0 : decide (16 ≤ a0) = false := decide_eq_false c2
    clear c2
    obtain rfl := Option.some.inj H
    go_enter Try.func52, Try.ntmps52
    go_wp2
    go_ret
    exact ⟨by first | rfl | (simp; done) | (simp [*]; done), by repeat (first | exact Drawn0.refl _ | apply Drawn0.step)⟩
def IsS103 (w0 W : World) (g : Nat) (f0 : List (List Int)) (f1 : List (S117)) (f2 : Int) (f3 : Bool) (f4 : Int) (f5 : Int) (f6 : Int) : Prop := ∃ A0 c0, ∃ A1 c1, W.heap[g]? = some (.cells #[.slice A0 f0.length c0, .slice A1 f1.length c1, .int .i64 f2, .bool f3, .int .i64 f4, .int .i64 f5, .int .i64 f6] 103 (0, 0)) ∧ w0.heap.size ≤ g ∧ Kd.C (Kd.slice 5 (Kd.int .u8)) w0 A0 f0.length f0 ∧ Kd.C k117 w0 A1 f1.length f1
theorem IsS103.grown {w0 W : World} {g : Nat} {f0 : List (List Int)} {f1 : List (S117)} {f2 : Int} {f3 : Bool} {f4 : Int} {f5 : Int} {f6 : Int} {W1 : World} {row : Option Nat} (h : IsS103 w0 W g f0 f1 f2 f3 f4 f5 f6) (hw : W.grownBy W1 row) (hne : some g ≠ row) : IsS103 w0 W1 g f0 f1 f2 f3 f4 f5 f6 := by
  obtain ⟨A0, c0, A1, c1, hb, hg, hr0, hr1⟩ := h
  exact ⟨A0, c0, A1, c1, blk_grown hb hw hne, hg, hr0, hr1⟩
theorem IsS103.kept {w0 W : World} {g : Nat} {f0 : List (List Int)} {f1 : List (S117)} {f2 : Int} {f3 : Bool} {f4 : Int} {f5 : Int} {f6 : Int} {W1 : World} {S : Nat → Prop} (h : IsS103 w0 W g f0 f1 f2 f3 f4 f5 f6) (hk : Kept W W1 S) (hne : ¬ S g) : IsS103 w0 W1 g f0 f1 f2 f3 f4 f5 f6 := by
  obtain ⟨A0, c0, A1, c1, hb, hg, hr0, hr1⟩ := h
  exact ⟨A0, c0, A1, c1, blk_kept hb hk hne, hg, hr0, hr1⟩
theorem IsS103.below {w0 W : World} {g : Nat} {f0 : List (List Int)} {f1 : List (S117)} {f2 : Int} {f3 : Bool} {f4 : Int} {f5 : Int} {f6 : Int} {W1 : World} (h : IsS103 w0 W g f0 f1 f2 f3 f4 f5 f6) (hw : Below W.heap.size W W1) : IsS103 w0 W1 g f0 f1 f2 f3 f4 f5 f6 := h.grown (grown_of_below hw none) (by simp)
theorem IsS103.alloc {w0 W : World} {g : Nat} {f0 : List (List Int)} {f1 : List (S117)} {f2 : Int} {f3 : Bool} {f4 : Int} {f5 : Int} {f6 : Int} (h : IsS103 w0 W g f0 f1 f2 f3 f4 f5 f6) (o : Obj) : IsS103 w0 (W.alloc o) g f0 f1 f2 f3 f4 f5 f6 := h.below (below_alloc (Below.refl _ _) o)
theorem IsS103.drewN {w0 W : World} {g : Nat} {f0 : List (List Int)} {f1 : List (S117)} {f2 : Int} {f3 : Bool} {f4 : Int} {f5 : Int} {f6 : Int} (h : IsS103 w0 W g f0 f1 f2 f3 f4 f5 f6) (m : Nat) : IsS103 w0 (W.drewN m) g f0 f1 f2 f3 f4 f5 f6 := h
theorem IsS103.drew {w0 W : World} {g : Nat} {f0 : List (List Int)} {f1 : List (S117)} {f2 : Int} {f3 : Bool} {f4 : Int} {f5 : Int} {f6 : Int} (h : IsS103 w0 W g f0 f1 f2 f3 f4 f5 f6) : IsS103 w0 W.drew g f0 f1 f2 f3 f4 f5 f6 := h
theorem IsS103.at_ {w0 W : World} {g : Nat} {f0 : List (List Int)} {f1 : List (S117)} {f2 : Int} {f3 : Bool} {f4 : Int} {f5 : Int} {f6 : Int} {w' : World} {m : Nat} (hq : W.drewN m = w') (h : IsS103 w0 W g f0 f1 f2 f3 f4 f5 f6) : IsS103 w0 w' g f0 f1 f2 f3 f4 f5 f6 := by subst hq; exact IsS103.drewN h m
theorem IsS103.apart {w0 W : World} {g : Nat} {f0 : List (List Int)} {f1 : List (S117)} {f2 : Int} {f3 : Bool} {f4 : Int} {f5 : Int} {f6 : Int} {α : Type} {d : Kd α} {e : Nat} {base : Nat} {ok : Nat → Prop} {v : Value} {xs : List α} (h : IsS103 w0 W g f0 f1 f2 f3 f4 f5 f6) (ho : d.R e W base ok v xs) (ht : ∀ q, q ∈ e :: d.E → q ≠ 103) : d.R e W base (fun k => ok k ∧ k ≠ g) v xs := by
  obtain ⟨A0, c0, A1, c1, hb, hg, hr0, hr1⟩ := h
  exact Kd.R_types ho hb ht
theorem IsS103.own_ne {w0 W : World} {g : Nat} {f0 : List (List Int)} {f1 : List (S117)} {f2 : Int} {f3 : Bool} {f4 : Int} {f5 : Int} {f6 : Int} {α : Type} {d : Kd α} {e : Nat} {base : Nat} {ok : Nat → Prop} {v : Value} {xs : List α} (h : IsS103 w0 W g f0 f1 f2 f3 f4 f5 f6) (ho : d.R e W base ok v xs) (ht : e ≠ 103) : some g ≠ v.ownBlock := by
  obtain ⟨A0, c0, A1, c1, hb, hg, hr0, hr1⟩ := h
  exact Kd.R_ne ho hb ht
theorem IsS103.lt {w0 W : World} {g : Nat} {f0 : List (List Int)} {f1 : List (S117)} {f2 : Int} {f3 : Bool} {f4 : Int} {f5 : Int} {f6 : Int} (h : IsS103 w0 W g f0 f1 f2 f3 f4 f5 f6) : g < W.heap.size := by
  obtain ⟨A0, c0, A1, c1, hb, hg, hr0, hr1⟩ := h
  exact blk_lt hb
theorem IsS103.far {w0 W : World} {g : Nat} {f0 : List (List Int)} {f1 : List (S117)} {f2 : Int} {f3 : Bool} {f4 : Int} {f5 : Int} {f6 : Int} {p : Addr} (h : IsS103 w0 W g f0 f1 f2 f3 f4 f5 f6) (hne : g ≠ p.block) (u : Value) : IsS103 w0 (W.setCell p u) g f0 f1 f2 f3 f4 f5 f6 := by
  obtain ⟨A0, c0, A1, c1, hb, hg, hr0, hr1⟩ := h
  exact ⟨A0, c0, A1, c1, blk_far hb hne u, hg, hr0, hr1⟩
theorem IsS103.new (w0 W : World) (A0 : Option Addr) (c0 : Nat) (A1 : Option Addr) (c1 : Nat) (f0 : List (List Int)) (f1 : List (S117)) (f2 : Int) (f3 : Bool) (f4 : Int) (f5 : Int) (f6 : Int) (hB : Below w0.heap.size w0 W) (hr0 : Kd.C (Kd.slice 5 (Kd.int .u8)) w0 A0 f0.length f0) (hr1 : Kd.C k117 w0 A1 f1.length f1) : IsS103 w0 (W.alloc (.cells #[.slice A0 f0.length c0, .slice A1 f1.length c1, .int .i64 f2, .bool f3, .int .i64 f4, .int .i64 f5, .int .i64 f6] 103)) W.heap.size f0 f1 f2 f3 f4 f5 f6 := ⟨A0, c0, A1, c1, by simpa using heap_alloc_new W _, hB.size, hr0, hr1⟩
def chantryref06_torn.l0 : Nat → List Int → List Int → Int → List Int → Int → Option (List Int)
  | 0, _, _, _, _, _ => none
  | k + 1, x0, x1, x2, x7, x8 => if x8 < 4 then (if 0 ≤ x8 then (if (Go.bits .and .i64 (shr .i64 x2 x8) 1) = 1 then (if 0 ≤ (wrap64 (64 * x8)) then (if (wrap64 (64 * x8)) ≤ (wrap64 ((wrap64 (64 * x8)) + 64)) then (if (wrap64 ((wrap64 (64 * x8)) + 64)) ≤ (x1.length : Int) then (if x7.length + ((x1.take ((wrap64 ((wrap64 (64 * x8)) + 64)) : Int).toNat).drop ((wrap64 (64 * x8)) : Int).toNat).length < 140737488355328 then (chantryref06_torn.l0 k x0 x1 x2 (x7 ++ ((x1.take ((wrap64 ((wrap64 (64 * x8)) + 64)) : Int).toNat).drop ((wrap64 (64 * x8)) : Int).toNat)) (wrap64 (x8 + 1))) else (none)) else (none)) else (none)) else (none)) else (if 0 ≤ (wrap64 (64 * x8)) then (if (wrap64 (64 * x8)) ≤ (wrap64 ((wrap64 (64 * x8)) + 64)) then (if (wrap64 ((wrap64 (64 * x8)) + 64)) ≤ (x0.length : Int) then (if x7.length + ((x0.take ((wrap64 ((wrap64 (64 * x8)) + 64)) : Int).toNat).drop ((wrap64 (64 * x8)) : Int).toNat).length < 140737488355328 then (chantryref06_torn.l0 k x0 x1 x2 (x7 ++ ((x0.take ((wrap64 ((wrap64 (64 * x8)) + 64)) : Int).toNat).drop ((wrap64 (64 * x8)) : Int).toNat)) (wrap64 (x8 + 1))) else (none)) else (none)) else (none)) else (none))) else (none)) else (some x7)
def chantryref06_torn.f (k : Nat) (l0 : List Int) (l1 : List Int) (a2 : Int) : Option (List Int) := chantryref06_torn.l0 k l0 l1 a2 ([] : List Int) 0
theorem chantryref06_torn.mono_l : ∀ k, (∀ y0 y1 y2 y3 y4, LeO (chantryref06_torn.l0 k y0 y1 y2 y3 y4) (chantryref06_torn.l0 (k + 1) y0 y1 y2 y3 y4))
  | 0 => fun _ _ _ _ _ r h => by simp [chantryref06_torn.l0] at h
  | k + 1 => by
    have ih0 := chantryref06_torn.mono_l k
    · intro y0 y1 y2 y3 y4
      unfold chantryref06_torn.l0
      repeat' first
      | (with_reducible exact ih0 _ _ _ _ _)
      | (with_reducible exact LeO.refl _)
      | (with_reducible exact LeO.none _)
      | (with_reducible refine LeO.ite ?_ ?_)
      | (with_reducible refine LeO.bind ?_ (fun _ => ?_))
      | exact ih0 _ _ _ _ _
      | exact LeO.none _
      | refine LeO.ite ?_ ?_
      | refine LeO.bind ?_ (fun _ => ?_)
theorem chantryref06_torn.mono : ∀ a0 a1 a2 k, LeO (chantryref06_torn.f k a0 a1 a2) (chantryref06_torn.f (k + 1) a0 a1 a2) := by
  intro a0 a1 a2 k
  have ih0 := chantryref06_torn.mono_l k
  unfold chantryref06_torn.f
  repeat' first
      | (with_reducible exact ih0 _ _ _ _ _)
      | (with_reducible exact LeO.refl _)
      | (with_reducible exact LeO.none _)
      | (with_reducible refine LeO.ite ?_ ?_)
      | (with_reducible refine LeO.bind ?_ (fun _ => ?_))
      | exact ih0 _ _ _ _ _
      | exact LeO.none _
      | refine LeO.ite ?_ ?_
      | refine LeO.bind ?_ (fun _ => ?_)
set_option maxHeartbeats 8000000 in
set_option maxRecDepth 100000 in
theorem chantryref06_torn.calls (k : Nat) (A0 : Option Addr) (c0 : Nat) (l0 : List Int) (A1 : Option Addr) (c1 : Nat) (l1 : List Int) (a2 : Int) (r : List Int) (w : World) (hr0 : Kd.C (Kd.int .u8) w A0 l0.length l0) (hc0 : l0.length ≤ c0) (hr1 : Kd.C (Kd.int .u8) w A1 l1.length l1) (hc1 : l1.length ≤ c1) (h : chantryref06_torn.f k l0 l1 a2 = some r) :
    Calls Try.prog 86 #[.slice A0 l0.length c0, .slice A1 l1.length c1, .int .i64 a2] w fun e w' => ∃ v0_ : Value, e = .returned (v0_) ∧ Kd.R (Kd.int .u8) 5 w' w.heap.size (fun _ => True) v0_ r ∧ Below w.heap.size w w' := by
  have HR0 := Aside0.mk hr0
  have HC0 := Aside0.mk hc0
  clear hr0 hc0
  have HR1 := Aside0.mk hr1
  have HC1 := Aside0.mk hc1
  clear hr1 hc1
  have HB := Aside0.mk (Below.refl w.heap.size w)
  have H : (chantryref06_torn.l0 k l0 l1 a2 ([] : List Int) 0) = some r := h
  clear h
  have H' := Aside0.mk H
  clear H
  go_enter Try.func86, Try.ntmps86
  go_wp2
  go_loopg [7, 8] k (fun kq v7 v8 w' => ∃ (x7_1 : List Int) (x8_1 : Int), v8 = .int .i64 x8_1 ∧ Aside0 (chantryref06_torn.l0 kq l0 l1 a2 x7_1 x8_1 = some r) ∧ Aside0 (kq ≤ k) ∧ Aside0 (Kd.R (Kd.int .u8) 5 w' w.heap.size (fun _ => True) v7 x7_1) ∧ Aside0 (Below w.heap.size w w'))
  case atStart => exact ⟨(([] : List Int)), (0), (by first | rfl | (simp; done) | (simp [*]; done)), H', ⟨Nat.le_refl _⟩, ⟨by first | exact Kd.R_nil _ _ _ _ _ | exact Kd.N_nil _ _ _ _ _ | exact Kd.V_nil _ _ _ _ _ | exact Kd.Q_nil _ _ _ _ _ | exact Kd.S_nil _ _ _ _ _⟩, ⟨by repeat (first | (with_reducible first | exact HB.out | apply below_alloc | apply pw_below_drewN | apply below_drew1) | exact HB.out)⟩⟩
  case round =>
    clear H'
    try clear c1
    try clear p2
    obtain ⟨x7_1, x8_1, rfl, HA, HK1, HO_7, HB⟩ := hrel
    cases gk with
    | zero => exact absurd HA.out (by simp [chantryref06_torn.l0])
    | succ k1 =>
      have H := HA.out
      clear HA
      simp only [chantryref06_torn.l0] at H
      by_cases c4 : x8_1 < 4
      · rw [if_pos c4] at H
        have c4b0 : decide (x8_1 < 4) = true := decide_eq_true c4
        clear c4
        by_cases c5 : 0 ≤ x8_1
        · rw [if_pos c5] at H
          have c5b0 := eq_true c5
          have c5b1 : decide (0 ≤ x8_1) = true := decide_eq_true c5
          clear c5
          obtain ⟨ji6, hji6⟩ : ∃ j_ : Int, (shr .i64 a2 x8_1) = j_ := ⟨_, rfl⟩
          replace H : (if (Go.bits .and .i64 (ji6) 1) = 1 then (if 0 ≤ (wrap64 (64 * x8_1)) then (if (wrap64 (64 * x8_1)) ≤ (wrap64 ((wrap64 (64 * x8_1)) + 64)) then (if (wrap64 ((wrap64 (64 * x8_1)) + 64)) ≤ (l1.length : Int) then (if x7_1.length + ((l1.take ((wrap64 ((wrap64 (64 * x8_1)) + 64)) : Int).toNat).drop ((wrap64 (64 * x8_1)) : Int).toNat).length < 140737488355328 then (chantryref06_torn.l0 k1 l0 l1 a2 (x7_1 ++ ((l1.take ((wrap64 ((wrap64 (64 * x8_1)) + 64)) : Int).toNat).drop ((wrap64 (64 * x8_1)) : Int).toNat)) (wrap64 (x8_1 + 1))) else (none)) else (none)) else (none)) else (none)) else (if 0 ≤ (wrap64 (64 * x8_1)) then (if (wrap64 (64 * x8_1)) ≤ (wrap64 ((wrap64 (64 * x8_1)) + 64)) then (if (wrap64 ((wrap64 (64 * x8_1)) + 64)) ≤ (l0.length : Int) then (if x7_1.length + ((l0.take ((wrap64 ((wrap64 (64 * x8_1)) + 64)) : Int).toNat).drop ((wrap64 (64 * x8_1)) : Int).toNat).length < 140737488355328 then (chantryref06_torn.l0 k1 l0 l1 a2 (x7_1 ++ ((l0.take ((wrap64 ((wrap64 (64 * x8_1)) + 64)) : Int).toNat).drop ((wrap64 (64 * x8_1)) : Int).toNat)) (wrap64 (x8_1 + 1))) else (none)) else (none)) else (none)) else (none))) = some r := by first | (rw [hji6] at H; exact H) | (simp only [hji6] at H ⊢; exact H)
          have hji6_ : (a2 / 2 ^ min x8_1.toNat 64) = ji6 := hji6
          have hji6z : x8_1 ≤ 64 → (a2 / 2 ^ x8_1.toNat) = ji6 := shr_small hji6
          by_cases c7 : (Go.bits .and .i64 (ji6) 1) = 1
          · rw [if_pos c7] at H
            have c7b0 : ((Go.bits .and .i64 (ji6) 1) == 1) = true := beq_iff_eq.mpr c7
            have c7b1 : ((Go.bits .and .i64 (ji6) 1) != 1) = false := bne_eq_false_iff_eq.mpr c7
            clear c7
            obtain ⟨ji8, hji8⟩ : ∃ j_ : Int, (wrap64 (64 * x8_1)) = j_ := ⟨_, rfl⟩
            replace H : (if 0 ≤ (ji8) then (if (ji8) ≤ (wrap64 ((ji8) + 64)) then (if (wrap64 ((ji8) + 64)) ≤ (l1.length : Int) then (if x7_1.length + ((l1.take ((wrap64 ((ji8) + 64)) : Int).toNat).drop ((ji8) : Int).toNat).length < 140737488355328 then (chantryref06_torn.l0 k1 l0 l1 a2 (x7_1 ++ ((l1.take ((wrap64 ((ji8) + 64)) : Int).toNat).drop ((ji8) : Int).toNat)) (wrap64 (x8_1 + 1))) else (none)) else (none)) else (none)) else (none)) = some r := by first | (rw [hji8] at H; exact H) | (simp only [hji8] at H ⊢; exact H)
            have hji8w : (IntKind.i64.wrap (64 * x8_1)) = ji8 := (i64_w _).trans hji8
            by_cases c9 : 0 ≤ (ji8)
            · rw [if_pos c9] at H
              have c9b0 := eq_true c9
              have c9b1 : decide (0 ≤ (ji8)) = true := decide_eq_true c9
              clear c9
              by_cases c10 : (ji8) ≤ (wrap64 ((ji8) + 64))
              · rw [if_pos c10] at H
                have c10b0 := eq_true c10
                have c10b1 : decide ((ji8) ≤ (wrap64 ((ji8) + 64))) = true := decide_eq_true c10
                by_cases c11 : (wrap64 ((ji8) + 64)) ≤ (l1.length : Int)
                · rw [if_pos c11] at H
                  have c11b0 := eq_true c11
                  have c11b1 : decide ((wrap64 ((ji8) + 64)) ≤ (l1.length : Int)) = true := decide_eq_true c11
                  by_cases c12 : x7_1.length + ((l1.take ((wrap64 ((ji8) + 64)) : Int).toNat).drop ((ji8) : Int).toNat).length < 140737488355328
                  · rw [if_pos c12] at H
                    have LMc12 := Aside0.mk c12
                    clear c12
                    obtain ⟨y266, hy266⟩ : ∃ y_ : List Int, y_ = (x7_1 ++ ((l1.take ((wrap64 ((ji8) + 64)) : Int).toNat).drop ((ji8) : Int).toNat)) := ⟨_, rfl⟩
                    replace H : (chantryref06_torn.l0 k1 l0 l1 a2 y266 (wrap64 (x8_1 + 1))) = some r := by first | (rw [hy266]; with_reducible exact H) | (have H2_ := (Option.bind_some _ _).symm.trans H; rw [hy266]; with_reducible exact H2_) | (have H2_ := (Option.bind_some _ _).symm.trans H; with_reducible exact H2_) | with_reducible exact H | (rw [hy266]; exact H) | exact H
                    have Ny266 := Aside0.mk hy266
                    clear hy266
                    have H' := Aside0.mk H
                    clear H
                    obtain ⟨i013, hi013, _, hsz13, _⟩ := info_parts info5
                    obtain ⟨A13, hcut13, hA13, hC13⟩ := print_mid_of (P := Try.prog) (Value.int .u8) 0 26 5 .i64 .i64 Try.underlying26 hi013 hsz13 A1 c1 l1 (ji8) (wrap64 ((ji8) + 64)) (of_decide_eq_true (by first | (with_reducible assumption) | assumption)) (by first | omega | exact of_decide_eq_true (by first | (with_reducible assumption) | assumption)) (of_decide_eq_true (by first | (with_reducible assumption) | assumption)) HC1.out
                    have HR265 := Aside0.mk (Kd.C_of_reads (h1 := fun _ => rfl) (hA13 _ (Kd.reads_of_C HR1.out)))
                    have HC265 := Aside0.mk hC13
                    clear hA13 hC13 hi013 hsz13
                    go_wp2_with (first | ((with_reducible refine gate_builtin (b := .append) (xs := #[.tmp 21, .tmp 28]) rfl ?_); at_builtin; refine Kd.R_append_rows (Kd.int .u8) (w0 := w) w.heap.size rfl (.tmp 21) (.tmp 28) 26 5 (.int .u8 0) 1 rfl Try.underlying26 info5 rfl (by decide) (by omega) u7 x7_1 ((l1.take ((wrap64 ((ji8) + 64)) : Int).toNat).drop ((ji8) : Int).toNat) _ _ _ (fun _ => True) (fun _ => False) rfl rfl ?aO ?aR (fun _ _ h => h) (fun _ h => h.elim) ?aF ?aB ?aS ?aL ?_; (case aR => first | (rw [← show ((l1.take ((wrap64 ((ji8) + 64)) : Int).toNat).drop ((ji8) : Int).toNat).length = ((wrap64 ((ji8) + 64)).toNat - (ji8).toNat) from (by rw [List.length_drop, List.length_take]; have h_ : ((wrap64 ((ji8) + 64)) : Int) ≤ (l1.length : Int) := of_decide_eq_true (by first | (with_reducible assumption) | assumption); omega)]; repeat (first | exact (Kd.C_below HR265.out HB.out) | (with_reducible refine Kd.C_alloc ?_ _) | (with_reducible refine Kd.C_drewN ?_ _) | (with_reducible refine Kd.C_drew ?_))) | (repeat (first | exact (Kd.C_below HR265.out HB.out) | (with_reducible refine Kd.C_alloc ?_ _) | (with_reducible refine Kd.C_drewN ?_ _) | (with_reducible refine Kd.C_drew ?_)))); (case aB => exact (by repeat (first | (with_reducible first | exact HB.out | apply below_alloc | apply pw_below_drewN | apply below_drew1) | exact HB.out))); (case aF => exact (fun _ _ => trivial)); (case aO => exact (by (with_reducible repeat (first | apply Kd.R_alloc | apply Kd.R_drewN | apply Kd.R_drew)); exact HO_7.out)); (case aS => exact (below_size (by repeat (first | (with_reducible first | exact HB.out | apply below_alloc | apply pw_below_drewN | apply below_drew1) | exact HB.out)))); (case aL => have := LMc12.out; have hlx_ := (show ((l1.take ((wrap64 ((ji8) + 64)) : Int).toNat).drop ((ji8) : Int).toNat).length = ((wrap64 ((ji8) + 64)).toNat - (ji8).toNat) from (by rw [List.length_drop, List.length_take]; have h_ : ((wrap64 ((ji8) + 64)) : Int) ≤ (l1.length : Int) := of_decide_eq_true (by first | (with_reducible assumption) | assumption); omega)); omega); intro v267 w14 ho hb hg hat; rw [← Ny266.out] at ho; have n0_ := Aside0.mk (hb); have n1_ := Aside0.mk (ho); clear HB; clear HO_7; have HB := n0_; have HO268 := n1_; clear n0_ n1_; clear ho hb hg hat))
                    go_roundg k1
                    case measure => have := HK1.out; omega
                    case rel => exact ⟨(y266), (wrap64 (x8_1 + 1)), (by first | rfl | (simp; done) | (simp [*]; done)), H', ⟨by have := HK1.out; omega⟩, ⟨by (with_reducible repeat (first | apply Kd.R_alloc | apply Kd.R_drewN | apply Kd.R_drew)); exact HO268.out⟩, ⟨by repeat (first | (with_reducible first | exact HB.out | apply below_alloc | apply pw_below_drewN | apply below_drew1) | exact HB.out)⟩⟩
                  · rw [if_neg c12] at H
                    exact absurd H (by simp)
                · rw [if_neg c11] at H
                  exact absurd H (by simp)
              · rw [if_neg c10] at H
                exact absurd H (by simp)
            · rw [if_neg c9] at H
              exact absurd H (by simp)
          · rw [if_neg c7] at H
            have c7b0 : ((Go.bits .and .i64 (ji6) 1) == 1) = false := beq_eq_false_iff_ne.mpr c7
            have c7b1 : ((Go.bits .and .i64 (ji6) 1) != 1) = true := bne_iff_ne.mpr c7
            obtain ⟨ji15, hji15⟩ : ∃ j_ : Int, (wrap64 (64 * x8_1)) = j_ := ⟨_, rfl⟩
            replace H : (if 0 ≤ (ji15) then (if (ji15) ≤ (wrap64 ((ji15) + 64)) then (if (wrap64 ((ji15) + 64)) ≤ (l0.length : Int) then (if x7_1.length + ((l0.take ((wrap64 ((ji15) + 64)) : Int).toNat).drop ((ji15) : Int).toNat).length < 140737488355328 then (chantryref06_torn.l0 k1 l0 l1 a2 (x7_1 ++ ((l0.take ((wrap64 ((ji15) + 64)) : Int).toNat).drop ((ji15) : Int).toNat)) (wrap64 (x8_1 + 1))) else (none)) else (none)) else (none)) else (none)) = some r := by first | (rw [hji15] at H; exact H) | (simp only [hji15] at H ⊢; exact H)
            have hji15w : (IntKind.i64.wrap (64 * x8_1)) = ji15 := (i64_w _).trans hji15
            by_cases c16 : 0 ≤ (ji15)
            · rw [if_pos c16] at H
              have c16b0 := eq_true c16
              have c16b1 : decide (0 ≤ (ji15)) = true := decide_eq_true c16
              clear c16
              by_cases c17 : (ji15) ≤ (wrap64 ((ji15) + 64))
              · rw [if_pos c17] at H
                have c17b0 := eq_true c17
                have c17b1 : decide ((ji15) ≤ (wrap64 ((ji15) + 64))) = true := decide_eq_true c17
                by_cases c18 : (wrap64 ((ji15) + 64)) ≤ (l0.length : Int)
                · rw [if_pos c18] at H
                  have c18b0 := eq_true c18
                  have c18b1 : decide ((wrap64 ((ji15) + 64)) ≤ (l0.length : Int)) = true := decide_eq_true c18
                  by_cases c19 : x7_1.length + ((l0.take ((wrap64 ((ji15) + 64)) : Int).toNat).drop ((ji15) : Int).toNat).length < 140737488355328
                  · rw [if_pos c19] at H
                    have LMc19 := Aside0.mk c19
                    clear c19
                    obtain ⟨y270, hy270⟩ : ∃ y_ : List Int, y_ = (x7_1 ++ ((l0.take ((wrap64 ((ji15) + 64)) : Int).toNat).drop ((ji15) : Int).toNat)) := ⟨_, rfl⟩
                    replace H : (chantryref06_torn.l0 k1 l0 l1 a2 y270 (wrap64 (x8_1 + 1))) = some r := by first | (rw [hy270]; with_reducible exact H) | (have H2_ := (Option.bind_some _ _).symm.trans H; rw [hy270]; with_reducible exact H2_) | (have H2_ := (Option.bind_some _ _).symm.trans H; with_reducible exact H2_) | with_reducible exact H | (rw [hy270]; exact H) | exact H
                    have Ny270 := Aside0.mk hy270
                    clear hy270
                    have H' := Aside0.mk H
                    clear H
                    obtain ⟨i020, hi020, _, hsz20, _⟩ := info_parts info5
                    obtain ⟨A20, hcut20, hA20, hC20⟩ := print_mid_of (P := Try.prog) (Value.int .u8) 0 26 5 .i64 .i64 Try.underlying26 hi020 hsz20 A0 c0 l0 (ji15) (wrap64 ((ji15) + 64)) (of_decide_eq_true (by first | (with_reducible assumption) | assumption)) (by first | omega | exact of_decide_eq_true (by first | (with_reducible assumption) | assumption)) (of_decide_eq_true (by first | (with_reducible assumption) | assumption)) HC0.out
                    have HR269 := Aside0.mk (Kd.C_of_reads (h1 := fun _ => rfl) (hA20 _ (Kd.reads_of_C HR0.out)))
                    have HC269 := Aside0.mk hC20
                    clear hA20 hC20 hi020 hsz20
                    go_wp2_with (first | ((with_reducible refine gate_builtin (b := .append) (xs := #[.tmp 21, .tmp 28]) rfl ?_); at_builtin; refine Kd.R_append_rows (Kd.int .u8) (w0 := w) w.heap.size rfl (.tmp 21) (.tmp 28) 26 5 (.int .u8 0) 1 rfl Try.underlying26 info5 rfl (by decide) (by omega) u7 x7_1 ((l0.take ((wrap64 ((ji15) + 64)) : Int).toNat).drop ((ji15) : Int).toNat) _ _ _ (fun _ => True) (fun _ => False) rfl rfl ?aO ?aR (fun _ _ h => h) (fun _ h => h.elim) ?aF ?aB ?aS ?aL ?_; (case aR => first | (rw [← show ((l0.take ((wrap64 ((ji15) + 64)) : Int).toNat).drop ((ji15) : Int).toNat).length = ((wrap64 ((ji15) + 64)).toNat - (ji15).toNat) from (by rw [List.length_drop, List.length_take]; have h_ : ((wrap64 ((ji15) + 64)) : Int) ≤ (l0.length : Int) := of_decide_eq_true (by first | (with_reducible assumption) | assumption); omega)]; repeat (first | exact (Kd.C_below HR269.out HB.out) | (with_reducible refine Kd.C_alloc ?_ _) | (with_reducible refine Kd.C_drewN ?_ _) | (with_reducible refine Kd.C_drew ?_))) | (repeat (first | exact (Kd.C_below HR269.out HB.out) | (with_reducible refine Kd.C_alloc ?_ _) | (with_reducible refine Kd.C_drewN ?_ _) | (with_reducible refine Kd.C_drew ?_)))); (case aB => exact (by repeat (first | (with_reducible first | exact HB.out | apply below_alloc | apply pw_below_drewN | apply below_drew1) | exact HB.out))); (case aF => exact (fun _ _ => trivial)); (case aO => exact (by (with_reducible repeat (first | apply Kd.R_alloc | apply Kd.R_drewN | apply Kd.R_drew)); exact HO_7.out)); (case aS => exact (below_size (by repeat (first | (with_reducible first | exact HB.out | apply below_alloc | apply pw_below_drewN | apply below_drew1) | exact HB.out)))); (case aL => have := LMc19.out; have hlx_ := (show ((l0.take ((wrap64 ((ji15) + 64)) : Int).toNat).drop ((ji15) : Int).toNat).length = ((wrap64 ((ji15) + 64)).toNat - (ji15).toNat) from (by rw [List.length_drop, List.length_take]; have h_ : ((wrap64 ((ji15) + 64)) : Int) ≤ (l0.length : Int) := of_decide_eq_true (by first | (with_reducible assumption) | assumption); omega)); omega); intro v271 w21 ho hb hg hat; rw [← Ny270.out] at ho; have n0_ := Aside0.mk (hb); have n1_ := Aside0.mk (ho); clear HB; clear HO_7; have HB := n0_; have HO272 := n1_; clear n0_ n1_; clear ho hb hg hat))
                    go_roundg k1
                    case measure => have := HK1.out; omega
                    case rel => exact ⟨(y270), (wrap64 (x8_1 + 1)), (by first | rfl | (simp; done) | (simp [*]; done)), H', ⟨by have := HK1.out; omega⟩, ⟨by (with_reducible repeat (first | apply Kd.R_alloc | apply Kd.R_drewN | apply Kd.R_drew)); exact HO272.out⟩, ⟨by repeat (first | (with_reducible first | exact HB.out | apply below_alloc | apply pw_below_drewN | apply below_drew1) | exact HB.out)⟩⟩
                  · rw [if_neg c19] at H
                    exact absurd H (by simp)
                · rw [if_neg c18] at H
                  exact absurd H (by simp)
              · rw [if_neg c17] at H
                exact absurd H (by simp)
            · rw [if_neg c16] at H
              exact absurd H (by simp)
        · rw [if_neg c5] at H
          exact absurd H (by simp)
      · rw [if_neg c4] at H
        have c4b0 : decide (x8_1 < 4) = false := decide_eq_false c4
        clear c4
        obtain rfl := Option.some.inj H
        go_wp2
        go_ret
        exact ⟨_, by first | rfl | (simp [errW_none, errW_some] <;> rfl) | (simp [*, errW_none, errW_some] <;> rfl), by (with_reducible repeat (first | apply Kd.R_alloc | apply Kd.R_drewN | apply Kd.R_drew)); exact HO_7.out, by repeat (first | (with_reducible first | exact HB.out | apply below_alloc | apply pw_below_drewN | apply below_drew1) | exact HB.out)⟩
def chantrylaw06_Few.l0 : Nat → List (S61) → Int → Option (Bool)
  | 0, _, _ => none
  | k + 1, x0, x3 => if x3 < (x0.length : Int) then (if 0 ≤ x3 then (if (((rd_T61 x0 x3).f2).length : Int) > 600 then (some false) else (chantrylaw06_Few.l0 k x0 (wrap64 (x3 + 1)))) else (none)) else (some true)
def chantrylaw06_Few.f (k : Nat) (l0 : List (S61)) : Option (Bool) := if (l0.length : Int) > 40 then (some false) else (chantrylaw06_Few.l0 k l0 0)
theorem chantrylaw06_Few.mono_l : ∀ k, (∀ y0 y1, LeO (chantrylaw06_Few.l0 k y0 y1) (chantrylaw06_Few.l0 (k + 1) y0 y1))
  | 0 => fun _ _ r h => by simp [chantrylaw06_Few.l0] at h
  | k + 1 => by
    have ih0 := chantrylaw06_Few.mono_l k
    · intro y0 y1
      unfold chantrylaw06_Few.l0
      repeat' first
      | (with_reducible exact ih0 _ _)
      | (with_reducible exact LeO.refl _)
      | (with_reducible exact LeO.none _)
      | (with_reducible refine LeO.ite ?_ ?_)
      | (with_reducible refine LeO.bind ?_ (fun _ => ?_))
      | exact ih0 _ _
      | exact LeO.none _
      | refine LeO.ite ?_ ?_
      | refine LeO.bind ?_ (fun _ => ?_)
theorem chantrylaw06_Few.mono : ∀ a0 k, LeO (chantrylaw06_Few.f k a0) (chantrylaw06_Few.f (k + 1) a0) := by
  intro a0 k
  have ih0 := chantrylaw06_Few.mono_l k
  unfold chantrylaw06_Few.f
  repeat' first
      | (with_reducible exact ih0 _ _)
      | (with_reducible exact LeO.refl _)
      | (with_reducible exact LeO.none _)
      | (with_reducible refine LeO.ite ?_ ?_)
      | (with_reducible refine LeO.bind ?_ (fun _ => ?_))
      | exact ih0 _ _
      | exact LeO.none _
      | refine LeO.ite ?_ ?_
      | refine LeO.bind ?_ (fun _ => ?_)
set_option maxHeartbeats 8000000 in
set_option maxRecDepth 100000 in
theorem chantrylaw06_Few.calls (k : Nat) (A0 : Option Addr) (c0 : Nat) (l0 : List (S61)) (r : Bool) (w : World) (hr0 : Kd.C k61 w A0 l0.length l0) (hc0 : l0.length ≤ c0) (h : chantrylaw06_Few.f k l0 = some r) :
    Calls Try.prog 19 #[.slice A0 l0.length c0] w fun e w' => e = .returned (.bool r) ∧ Drawn0 w w' := by
  have HR0 := Aside0.mk hr0
  have HC0 := Aside0.mk hc0
  clear hr0 hc0
  have H : (if (l0.length : Int) > 40 then (some false) else (chantrylaw06_Few.l0 k l0 0)) = some r := h
  clear h
  by_cases c2 : (l0.length : Int) > 40
  · rw [if_pos c2] at H
    have c2b0 : decide (40 < (l0.length : Int)) = true := decide_eq_true c2
    have c2b1 : decide (40 < l0.length) = true := decide_eq_true (by omega)
    clear c2
    obtain rfl := Option.some.inj H
    go_enter Try.func19, Try.ntmps19
    go_wp2
    go_ret
    exact ⟨by first | rfl | (simp; done) | (simp [*]; done), by repeat (first | exact Drawn0.refl _ | apply Drawn0.step)⟩
  · rw [if_neg c2] at H
    have c2b0 : decide (40 < (l0.length : Int)) = false := decide_eq_false c2
    have c2b1 : decide (40 < l0.length) = false := decide_eq_false (by omega)
    clear c2
    have H' := Aside0.mk H
    clear H
    go_enter Try.func19, Try.ntmps19
    go_wp2
    go_loopg [3] k (fun kq v3 w' => ∃ (x3_1 : Int), v3 = .int .i64 x3_1 ∧ Aside0 (chantrylaw06_Few.l0 kq l0 x3_1 = some r) ∧ Aside0 (kq ≤ k) ∧ Drawn0 w w')
    case atStart => exact ⟨(0), (by first | rfl | (simp; done) | (simp [*]; done)), H', ⟨Nat.le_refl _⟩, by repeat (first | exact Drawn0.refl _ | apply Drawn0.step)⟩
    case round =>
      clear H'
      try clear c1
      try clear c2
      try clear c2b0
      try clear c2b1
      try clear p2
      obtain ⟨x3_1, rfl, HA, HK1, ⟨m1, rfl⟩⟩ := hrel
      cases gk with
      | zero => exact absurd HA.out (by simp [chantrylaw06_Few.l0])
      | succ k1 =>
        have H := HA.out
        clear HA
        simp only [chantrylaw06_Few.l0] at H
        by_cases c3 : x3_1 < (l0.length : Int)
        · rw [if_pos c3] at H
          have c3b0 : decide (x3_1 < (l0.length : Int)) = true := decide_eq_true c3
          clear c3
          by_cases c4 : 0 ≤ x3_1
          · rw [if_pos c4] at H
            have c4b0 : decide (0 ≤ x3_1) = true := decide_eq_true c4
            clear c4
            by_cases c5 : (((rd_T61 l0 x3_1).f2).length : Int) > 600
            · rw [if_pos c5] at H
              have c5b0 : decide (600 < (((rd_T61 l0 x3_1).f2).length : Int)) = true := decide_eq_true c5
              have c5b1 : decide (600 < ((rd_T61 l0 x3_1).f2).length) = true := decide_eq_true (by omega)
              clear c5
              obtain rfl := Option.some.inj H
              have p155 : 0 ≤ (x3_1 : Int) := of_decide_eq_true (by first | (with_reducible assumption) | assumption)
              have q155 : x3_1 < (l0.length : Int) := of_decide_eq_true (by first | (with_reducible assumption) | assumption)
              obtain ⟨ad155, A155_2, c155_2, A155_4, c155_4, e155, hx155_0, hx155_1, hx155_2, hx155_3, hx155_4, hl155_2, hi155_2, hl155_4, hi155_4⟩ := at_T61 HR0.out x3_1 p155 q155
              cases e155
              have HR155_2 := Aside0.mk hi155_2
              have HC155_2 := Aside0.mk hl155_2
              clear hi155_2 hl155_2
              have HR155_4 := Aside0.mk hi155_4
              have HC155_4 := Aside0.mk hl155_4
              clear hi155_4 hl155_4
              replace p155 := eq_true p155
              replace q155 := eq_true q155
              go_wp2
              go_ret
              exact ⟨by first | rfl | (simp; done) | (simp [*]; done), by repeat (first | exact Drawn0.refl _ | apply Drawn0.step)⟩
            · rw [if_neg c5] at H
              have c5b0 : decide (600 < (((rd_T61 l0 x3_1).f2).length : Int)) = false := decide_eq_false c5
              have c5b1 : decide (600 < ((rd_T61 l0 x3_1).f2).length) = false := decide_eq_false (by omega)
              clear c5
              have H' := Aside0.mk H
              clear H
              have p155 : 0 ≤ (x3_1 : Int) := of_decide_eq_true (by first | (with_reducible assumption) | assumption)
              have q155 : x3_1 < (l0.length : Int) := of_decide_eq_true (by first | (with_reducible assumption) | assumption)
              obtain ⟨ad155, A155_2, c155_2, A155_4, c155_4, e155, hx155_0, hx155_1, hx155_2, hx155_3, hx155_4, hl155_2, hi155_2, hl155_4, hi155_4⟩ := at_T61 HR0.out x3_1 p155 q155
              cases e155
              have HR155_2 := Aside0.mk hi155_2
              have HC155_2 := Aside0.mk hl155_2
              clear hi155_2 hl155_2
              have HR155_4 := Aside0.mk hi155_4
              have HC155_4 := Aside0.mk hl155_4
              clear hi155_4 hl155_4
              replace p155 := eq_true p155
              replace q155 := eq_true q155
              go_wp2
              go_roundg k1
              case measure => have := HK1.out; omega
              case rel => exact ⟨(wrap64 (x3_1 + 1)), (by first | rfl | (simp; done) | (simp [*]; done)), H', ⟨by have := HK1.out; omega⟩, by repeat (first | exact Drawn0.refl _ | apply Drawn0.step)⟩
          · rw [if_neg c4] at H
            exact absurd H (by simp)
        · rw [if_neg c3] at H
          have c3b0 : decide (x3_1 < (l0.length : Int)) = false := decide_eq_false c3
          clear c3
          obtain rfl := Option.some.inj H
          go_wp2
          go_ret
          exact ⟨by first | rfl | (simp; done) | (simp [*]; done), by repeat (first | exact Drawn0.refl _ | apply Drawn0.step)⟩
end Go.Proofs.Ytopfjmeejpamjaa.PDiskDoes
end
section
namespace Go.Disk
set_option linter.unusedVariables false
structure Dk where
  safe : List (List Int)
  waits : List (Int × List Int)
  left : Int
  off : Bool
  reads : Int
  writes : Int
  flushes : Int
structure Ok (D : Dk) : Prop where
  few : 16 ≤ D.safe.length ∧ D.safe.length ≤ 1024
  len : ∀ b ∈ D.safe, b.length = 256
  byte : ∀ b ∈ D.safe, ∀ x ∈ b, 0 ≤ x ∧ x ≤ 255
  at_ : ∀ p ∈ D.waits, 0 ≤ p.1 ∧ p.1 < D.safe.length ∧ p.2.length = 256 ∧ ∀ x ∈ p.2, 0 ≤ x ∧ x ≤ 255
  left : -1 ≤ D.left ∧ D.left ≤ 9223372036854775807
def rep (n : Nat) (x : Int) : List Int := List.replicate n x
theorem rep_len (n : Nat) (x : Int) : (rep n x).length = n := List.length_replicate
theorem rep_mem {n : Nat} {x y : Int} (h : y ∈ rep n x) : y = x := (List.mem_replicate.1 h).2
def zblock : List Int := rep 256 0
theorem zblock_len : zblock.length = 256 := rep_len 256 0
theorem zblock_mem {x : Int} (h : x ∈ zblock) : x = 0 := rep_mem h
def zeros (n : Nat) : List (List Int) := List.replicate n zblock
def blankD (n : Nat) : Dk := ⟨zeros n, [], -1, false, 0, 0, 0⟩
theorem zeros_len (n : Nat) : ∀ b ∈ zeros n, b.length = 256 := fun b hb => by
  rw [(List.mem_replicate.1 hb).2]
  exact zblock_len
theorem zeros_size (n : Nat) : (zeros n).length = n := List.length_replicate
theorem zeros_mem {n : Nat} {x : Int} (h : x ∈ (zeros n).flatten) : x = 0 := by
  obtain ⟨l, hl, hx⟩ := List.mem_flatten.1 h
  rw [(List.mem_replicate.1 hl).2] at hx
  exact zblock_mem hx
theorem blank_ok (n : Nat) (h : 16 ≤ n ∧ n ≤ 1024) : Ok (blankD n) := by
  refine ⟨by show 16 ≤ (zeros n).length ∧ (zeros n).length ≤ 1024; rw [zeros_size]; exact h, zeros_len n, fun b hb x hx => ?_, fun p hp => by simp [blankD] at hp, by simp [blankD]⟩
  rw [(List.mem_replicate.1 hb).2] at hx
  rw [zblock_mem hx]
  omega
def ready (D : Dk) (n : Int) : Int := if D.off then 9 else if n < 0 ∨ (D.safe.length : Int) ≤ n then 10 else 0
theorem flat_len {l : List (List Int)} (h : ∀ b ∈ l, b.length = 256) : l.flatten.length = l.length * 256 := by
  induction l with
  | nil => rfl
  | cons b l ih =>
    rw [List.flatten_cons, List.length_append, ih (fun c hc => h c (List.mem_cons_of_mem _ hc)), h b List.mem_cons_self, List.length_cons]
    omega
theorem flat_block {l : List (List Int)} (h : ∀ b ∈ l, b.length = 256) (n : Nat) (hn : n < l.length) : (l.flatten.drop (n * 256)).take 256 = l[n] := by
  induction l generalizing n with
  | nil => simp at hn
  | cons b l ih =>
    have hb := h b List.mem_cons_self
    cases n with
    | zero =>
      rw [List.flatten_cons, Nat.zero_mul, List.drop_zero, List.take_append_of_le_length (by omega), ← hb, List.take_length]
      rfl
    | succ n =>
      rw [List.flatten_cons, show (n + 1) * 256 = b.length + n * 256 by omega, List.drop_append, List.getElem_cons_succ]
      rw [show b.length + n * 256 - b.length = n * 256 by omega, List.drop_eq_nil_of_le (by omega), List.nil_append]
      exact ih (fun c hc => h c (List.mem_cons_of_mem _ hc)) n (by simpa using hn)
theorem flat_set {l : List (List Int)} (h : ∀ b ∈ l, b.length = 256) (n : Nat) (hn : n < l.length) (c : List Int) (hc : c.length = 256) : (l.set n c).flatten = l.flatten.take (n * 256) ++ c ++ l.flatten.drop (n * 256 + 256) := by
  induction l generalizing n with
  | nil => simp at hn
  | cons b l ih =>
    have hb := h b List.mem_cons_self
    cases n with
    | zero =>
      rw [List.set_cons_zero, List.flatten_cons, List.flatten_cons, Nat.zero_mul, List.take_zero, List.nil_append, Nat.zero_add, List.drop_append, List.drop_eq_nil_of_le (by omega), List.nil_append, hb]
      rfl
    | succ n =>
      rw [List.set_cons_succ, List.flatten_cons, List.flatten_cons, ih (fun c hc => h c (List.mem_cons_of_mem _ hc)) n (by simpa using hn)]
      rw [show (n + 1) * 256 = b.length + n * 256 by omega, List.take_length_add_append, show b.length + n * 256 + 256 = b.length + (n * 256 + 256) by omega, List.drop_length_add_append]
      simp
def tornTo (on : Nat → Bool) (was bs : List Int) : Nat → List Int
  | 0 => was
  | k + 1 => if on k then (tornTo on was bs k).take (64 * k) ++ ((bs.drop (64 * k)).take 64 ++ (tornTo on was bs k).drop (64 * k + 64)) else tornTo on was bs k
def lay (l : List Int) (o : Nat) (xs : List Int) : List Int := l.take o ++ (xs ++ l.drop (o + xs.length))
theorem lay_len (l : List Int) (o : Nat) (xs : List Int) (h : o + xs.length ≤ l.length) : (lay l o xs).length = l.length := by
  simp only [lay, List.length_append, List.length_take, List.length_drop]
  omega
theorem lay_mid (A c B xs : List Int) (o : Nat) (ho : o + xs.length ≤ c.length) : lay (A ++ c ++ B) (A.length + o) xs = A ++ lay c o xs ++ B := by
  unfold lay
  rw [show A.length + o + xs.length = A.length + (o + xs.length) by omega, List.append_assoc, List.take_length_add_append, List.drop_length_add_append, List.take_append_of_le_length (by omega), List.drop_append_of_le_length (by omega)]
  simp
theorem lay_block {l : List (List Int)} (h : ∀ b ∈ l, b.length = 256) (n : Nat) (hn : n < l.length) (c xs : List Int) (hc : c.length = 256) (o : Nat) (ho : o + xs.length ≤ 256) :
    lay (l.set n c).flatten (n * 256 + o) xs = (l.set n (lay c o xs)).flatten := by
  have hl := flat_len h
  have hA : (l.flatten.take (n * 256)).length = n * 256 := by rw [List.length_take, hl]; omega
  have h1 := flat_set h n hn c hc
  have h2 := flat_set h n hn (lay c o xs) (by rw [lay_len c o xs (by omega)]; exact hc)
  have h3 := lay_mid (l.flatten.take (n * 256)) c (l.flatten.drop (n * 256 + 256)) xs o (by omega)
  rw [hA] at h3
  rw [h1, h2, h3]
end Go.Disk
namespace Go.Proofs.Ytopfjmeejpamjaa
set_option linter.unusedVariables false
set_option linter.unusedSimpArgs false
open Go.RowKit Go.Proofs.YtopfjmeejpamjaaW.PrintWords Go.Proofs.YtopfjmeejpamjaaW.PrintLast Go.Proofs.YtopfjmeejpamjaaW.PrintMore
namespace Disk
open Go.Disk PDiskDoes PSuper
theorem cell_blk {w : World} {b k t : Nat} {cs : Array Value} (h : w.heap[b]? = some (.cells cs t (0, 0))) : w.cell? ⟨b, k, none⟩ = cs[k]? := blk_cell h k
theorem frozen_blk {w : World} {b k t : Nat} {cs : Array Value} (h : w.heap[b]? = some (.cells cs t (0, 0))) : w.frozen? ⟨b, k, none⟩ = false := blk_frozen h k
abbrev kW : Kd (Int × List Int) := Kd.pair (Kd.int .i64) (Kd.slice 5 (Kd.int .u8))
def u8s (l : List Int) : List Value := l.map (Value.int .u8)
structure PDx (w : World) (base db sb : Nat) (D : Dk) (vw : Value) (cs : Nat) (sp : List Value) : Prop where
  ok : Ok D
  dbase : base ≤ db
  sbase : base ≤ sb
  wown : ∀ k, vw.ownBlock = some k → base ≤ k
  cells : w.heap[db]? = some (.cells #[.slice (some ⟨sb, 0, none⟩) D.safe.flatten.length cs, vw, .int .i64 D.left, .bool D.off, .int .i64 D.reads, .int .i64 D.writes, .int .i64 D.flushes] 91 (0, 0))
  waits : Kd.R kW 94 w 0 (fun k => k ≠ sb) vw D.waits
  safe : w.heap[sb]? = some (.cells (u8s D.safe.flatten ++ sp).toArray 5 (0, 0))
  room : D.safe.flatten.length + sp.length = cs
def PD (w : World) (base db sb : Nat) (D : Dk) : Prop := ∃ vw cs sp, PDx w base db sb D vw cs sp
theorem PDx.ne {w : World} {base db sb cs : Nat} {D : Dk} {vw : Value} {sp : List Value} (h : PDx w base db sb D vw cs sp) : db ≠ sb := by
  rintro rfl
  have := h.cells.symm.trans h.safe
  simp at this
theorem PDx.below {w w' : World} {base db sb cs : Nat} {D : Dk} {vw : Value} {sp : List Value} (h : PDx w base db sb D vw cs sp) (b : Below w.heap.size w w') : PDx w' base db sb D vw cs sp :=
  ⟨h.ok, h.dbase, h.sbase, h.wown, (b.block db (blk_lt h.cells)).trans h.cells, Kd.R_below h.waits b, (b.block sb (blk_lt h.safe)).trans h.safe, h.room⟩
theorem PD.below {w w' : World} {base db sb : Nat} {D : Dk} (h : PD w base db sb D) (b : Below w.heap.size w w') : PD w' base db sb D := by
  obtain ⟨vw, cs, sp, h⟩ := h
  exact ⟨vw, cs, sp, h.below b⟩
theorem PD.ok {w : World} {base db sb : Nat} {D : Dk} (h : PD w base db sb D) : Ok D := by
  obtain ⟨vw, cs, sp, h⟩ := h
  exact h.ok
theorem PDx.put {w : World} {base db sb cs : Nat} {D D' : Dk} {vw : Value} {sp : List Value} (h : PDx w base db sb D vw cs sp) (k : Nat) (v : Value) (hok : Ok D') (hs : D'.safe = D.safe) (hw : D'.waits = D.waits)
    (hc : (#[.slice (some ⟨sb, 0, none⟩) D.safe.flatten.length cs, vw, .int .i64 D.left, .bool D.off, .int .i64 D.reads, .int .i64 D.writes, .int .i64 D.flushes] : Array Value).setIfInBounds k v = #[.slice (some ⟨sb, 0, none⟩) D.safe.flatten.length cs, vw, .int .i64 D'.left, .bool D'.off, .int .i64 D'.reads, .int .i64 D'.writes, .int .i64 D'.flushes]) :
    PDx (w.setCell ⟨db, k, none⟩ v) base db sb D' vw cs sp := by
  refine ⟨hok, h.dbase, h.sbase, h.wown, ?_, by rw [hw]; exact Kd.R_set h.waits h.cells (by decide) k v, by rw [hs, Below.heap_setCell _ _ _ _ (Ne.symm h.ne)]; exact h.safe, by rw [hs]; exact h.room⟩
  rw [blk_set h.cells k v, hc, hs]
structure Fr (bs : Nat → Prop) (ts : Nat → Nat → Prop) (w w' : World) : Prop where
  os : w'.os = w.os
  tape : w'.tape = w.tape
  output : w'.output = w.output
  size : w.heap.size ≤ w'.heap.size
  block : ∀ k, k < w.heap.size → ¬ bs k → (∀ cells t fz, w.heap[k]? = some (.cells cells t fz) → ¬ ts k t) → w'.heap[k]? = w.heap[k]?
theorem Fr.refl (bs : Nat → Prop) (ts : Nat → Nat → Prop) (w : World) : Fr bs ts w w := ⟨rfl, rfl, rfl, Nat.le_refl _, fun _ _ _ _ => rfl⟩
theorem Fr.trans {bs : Nat → Prop} {ts : Nat → Nat → Prop} {x y z : World} (h : Fr bs ts x y) (k : Fr bs ts y z) : Fr bs ts x z :=
  ⟨k.os.trans h.os, k.tape.trans h.tape, k.output.trans h.output, Nat.le_trans h.size k.size, fun i hi hne ht => by
    have e := h.block i hi hne ht
    exact (k.block i (Nat.lt_of_lt_of_le hi h.size) hne (fun c t fz hc => ht c t fz (e ▸ hc))).trans e⟩
theorem Fr.of_below {bs : Nat → Prop} {ts : Nat → Nat → Prop} {x y : World} (h : Below x.heap.size x y) : Fr bs ts x y := ⟨h.os, h.tape, h.output, h.size, fun k hk _ _ => h.block k hk⟩
theorem Fr.mono {bs bs' : Nat → Prop} {ts ts' : Nat → Nat → Prop} {x y : World} (h : Fr bs ts x y) (hb : ∀ k, bs k → bs' k) (ht : ∀ k t, ts k t → ts' k t) : Fr bs' ts' x y := ⟨h.os, h.tape, h.output, h.size, fun k hk hne h2 => h.block k hk (fun hS => hne (hb k hS)) (fun c t fz hc hS => h2 c t fz hc (ht k t hS))⟩
theorem Fr.set {bs : Nat → Prop} {ts : Nat → Nat → Prop} (w : World) (b k : Nat) (v : Value) (hb : bs b) : Fr bs ts w (w.setCell ⟨b, k, none⟩ v) :=
  ⟨rfl, rfl, rfl, by simp [World.setCell], fun i _ hi _ => Below.heap_setCell _ _ _ _ (fun e => hi (e ▸ hb))⟩
abbrev FP (base db sb : Nat) (w w' : World) : Prop := Fr (fun k => k = db ∨ k = sb) (fun k t => base ≤ k ∧ t = 94) w w'
abbrev FX (base xb : Nat) (w w' : World) : Prop := Fr (fun k => k = xb) (fun k t => base ≤ k ∧ (t = 26 ∨ t = 117)) w w'
theorem flatLen {D : Dk} (h : Ok D) : D.safe.flatten.length = D.safe.length * 256 := flat_len h.len
set_option maxRecDepth 100000 in
theorem blocks_any {w : World} {base db sb : Nat} {D : Dk} (h : PD w base db sb D) :
    Calls Try.prog 45 #[.pointer (some ⟨db, 0, none⟩)] w fun e w' => e = .returned (.int .i64 (D.safe.length : Int)) ∧ w' = w := by
  obtain ⟨vw, cs, sp, h⟩ := h
  have c0 : w.cell? ⟨db, 0, none⟩ = some (.slice (some ⟨sb, 0, none⟩) D.safe.flatten.length cs) := cell_blk h.cells
  have HL := Aside0.mk (flatLen h.ok)
  have hf := h.ok.few
  clear h
  obtain ⟨q, hq⟩ : ∃ q, q = D.safe.flatten.length := ⟨_, rfl⟩
  rw [← hq] at c0 HL
  clear hq
  go_enter Try.func45, Try.ntmps45
  have hq2 := HL.out
  clear HL
  subst hq2
  go_wp2_with fail
  go_ret
  exact ⟨rfl, rfl⟩
set_option maxRecDepth 100000 in
theorem ready_any {w : World} {base db sb : Nat} {D : Dk} (n : Int) (h : PD w base db sb D) :
    Calls Try.prog 76 #[.pointer (some ⟨db, 0, none⟩), .int .i64 n] w fun e w' => e = .returned (.int .i64 (ready D n)) ∧ w' = w := by
  have HP := Aside0.mk h
  obtain ⟨vw, cs, sp, h⟩ := h
  have c3 : w.cell? ⟨db, 3, none⟩ = some (.bool D.off) := cell_blk h.cells
  clear h
  unfold ready
  cases hoff : D.off with
  | true =>
    rw [hoff] at c3
    go_enter Try.func76, Try.ntmps76
    go_wp2_with fail
    go_ret
    exact ⟨rfl, rfl⟩
  | false =>
    rw [hoff] at c3
    by_cases h0 : n < 0
    · rw [if_neg (by simp), if_pos (.inl h0)]
      go_enter Try.func76, Try.ntmps76
      go_wp2_with fail
      go_ret
      exact ⟨rfl, rfl⟩
    · by_cases h1 : (D.safe.length : Int) ≤ n
      · rw [if_neg (by simp), if_pos (.inr h1)]
        go_enter Try.func76, Try.ntmps76
        go_wp2_with fail
        refine (blocks_any HP.out).mono ?_
        rintro e w1 ⟨rfl, rfl⟩
        go_wp2_with fail
        go_ret
        exact ⟨rfl, rfl⟩
      · rw [if_neg (by simp), if_neg (by omega)]
        go_enter Try.func76, Try.ntmps76
        go_wp2_with fail
        refine (blocks_any HP.out).mono ?_
        rintro e w1 ⟨rfl, rfl⟩
        go_wp2_with fail
        go_ret
        exact ⟨rfl, rfl⟩
def stopD (D : Dk) (n : Int) : Dk := { D with left := n }
def deedD (D : Dk) : Dk := if D.left = 0 then { D with off := true } else { D with left := max (D.left - 1) (-1) }
set_option maxRecDepth 100000 in
theorem deed_any {w : World} {base db sb : Nat} {D : Dk} (h : PD w base db sb D) :
    Calls Try.prog 79 #[.pointer (some ⟨db, 0, none⟩)] w fun e w' => e = .returned (.int .i64 (if D.left = 0 then 9 else 0)) ∧ PD w' base db sb (deedD D) ∧ FP base db sb w w' := by
  obtain ⟨vw, cs, sp, h⟩ := h
  have c2 : w.cell? ⟨db, 2, none⟩ = some (.int .i64 D.left) := cell_blk h.cells
  have f2 : w.frozen? ⟨db, 2, none⟩ = false := frozen_blk h.cells
  have c3 : w.cell? ⟨db, 3, none⟩ = some (.bool D.off) := cell_blk h.cells
  have f3 : w.frozen? ⟨db, 3, none⟩ = false := frozen_blk h.cells
  have HX := Aside0.mk h
  have ho := HX.out.ok
  have hl := ho.left
  have HOK := Aside0.mk ho
  clear h ho
  unfold deedD
  obtain ⟨L, hL⟩ : ∃ L, L = D.left := ⟨_, rfl⟩
  by_cases h0 : D.left = 0
  · rw [if_pos h0, if_pos h0]
    rw [h0] at c2
    clear hL
    go_enter Try.func79, Try.ntmps79
    go_wp2_with fail
    go_ret
    have ho := HOK.out
    exact ⟨rfl, ⟨vw, cs, sp, HX.out.put 3 (.bool true) (D' := { D with off := true }) ⟨ho.few, ho.len, ho.byte, ho.at_, ho.left⟩ rfl rfl rfl⟩, .set _ _ _ _ (.inl rfl)⟩
  · rw [if_neg h0, if_neg h0]
    have ho := HOK.out
    by_cases h1 : 0 < D.left
    · have hm : max (D.left - 1) (-1) = D.left - 1 := by omega
      rw [hm]
      rw [← hL] at c2 hl h0 h1
      have HL := Aside0.mk hL
      clear hL hm ho
      go_enter Try.func79, Try.ntmps79
      go_wp2_with fail
      · go_ret
        have ho := HOK.out
        have hL := HL.out
        exact ⟨rfl, ⟨vw, cs, sp, HX.out.put 2 (.int .i64 (L - 1)) (D' := { D with left := D.left - 1 }) ⟨ho.few, ho.len, ho.byte, ho.at_, ⟨by show -1 ≤ D.left - 1; omega, by show D.left - 1 ≤ 9223372036854775807; omega⟩⟩ rfl rfl (by rw [hL]; rfl)⟩, .set _ _ _ _ (.inl rfl)⟩
      all_goals (exfalso; omega)
    · have hm : max (D.left - 1) (-1) = -1 := by omega
      have hl1 : D.left = -1 := by omega
      rw [hm]
      rw [hl1] at c2
      clear hL hm ho h0 hl
      go_enter Try.func79, Try.ntmps79
      go_wp2_with fail
      go_ret
      have ho := HOK.out
      exact ⟨rfl, ⟨vw, cs, sp, HX.out.put 2 (.int .i64 (-1)) (D' := { D with left := -1 }) ⟨ho.few, ho.len, ho.byte, ho.at_, ⟨by show (-1 : Int) ≤ -1; omega, by show (-1 : Int) ≤ 9223372036854775807; omega⟩⟩ rfl rfl rfl⟩, .set _ _ _ _ (.inl rfl)⟩
set_option maxRecDepth 100000 in
theorem add_at (w : World) (b k : Nat) (x y : Int) (hc : w.cell? ⟨b, k, none⟩ = some (.int .i64 x)) (hf : w.frozen? ⟨b, k, none⟩ = false) :
    Calls Try.prog 77 #[.pointer (some ⟨b, k, none⟩), .int .i64 y] w fun e w' => e = .returned (.int .i64 (wrap64 (x + y))) ∧ w' = w.setCell ⟨b, k, none⟩ (.int .i64 (wrap64 (x + y))) := by
  have hadd := run_call_add (P := Try.prog) Try.func93 (by kernel_rfl) (by kernel_rfl) (by kernel_rfl) .i64 (by kernel_rfl) (y := y) (s := wrap64 (x + y)) hc hf (by simp [go_sem, IntKind.wrap_i64, wrap64])
  go_enter Try.func77, Try.ntmps77
  go_wp2_with fail
  go_ret
  exact ⟨rfl, rfl⟩
theorem zeros_made (n : Nat) : madeCells (Value.int .u8 0).cells (n * 256 * 1) = (u8s (zeros n).flatten).toArray := by
  have hl := flat_len (zeros_len n)
  rw [zeros_size] at hl
  have hu : (u8s (zeros n).flatten).length = n * 256 := by unfold u8s; rw [List.length_map, hl]
  apply Array.ext
  · rw [size_madeCells, List.size_toArray, hu, Nat.mul_one]
  · intro i h1 h2
    have h3 : i < (zeros n).flatten.length := by rw [List.size_toArray, hu] at h2; omega
    have e : (u8s (zeros n).flatten).toArray[i] = Value.int .u8 ((zeros n).flatten[i]) := by simp only [u8s, List.getElem_toArray, List.getElem_map]
    rw [e, zeros_mem (List.getElem_mem h3)]
    simp [madeCells, Value.cells, Nat.mod_one]
theorem zeros_row (n : Nat) (hn : n ≤ 1024) (W : World) : (Instr.makeSlice 26 (.int .i64 ((n : Int) * 256)) (.int .i64 ((n : Int) * 256))).run Try.prog W = .ok (.slice (some ⟨W.heap.size, 0, none⟩) (n * 256) (n * 256)) (W.alloc (.cells (u8s (zeros n).flatten).toArray 5)) := by
  have hinfo : (Try.prog.info? 5).map (fun i => (i.zero, i.size, i.bytes)) = some (some (.int .u8 0), 1, 1) := by kernel_rfl
  cases hi : Try.prog.info? 5 with
  | none => rw [hi] at hinfo; simp at hinfo
  | some i =>
    rw [hi] at hinfo
    simp only [Option.map_some, Option.some.injEq, Prod.mk.injEq] at hinfo
    obtain ⟨hz, hs, hb⟩ := hinfo
    have hr := run_make (P := Try.prog) W 26 5 i (.int .u8 0) Try.underlying26 hi hz .i64 .i64 ((n * 256 : Nat) : Int) ((n * 256 : Nat) : Int) (by omega) (Int.le_refl _) (by rw [hb]; omega) (by omega)
    rw [hs] at hr
    simp only [Int.toNat_natCast] at hr
    rw [zeros_made] at hr
    have e : ((n * 256 : Nat) : Int) = (n : Int) * 256 := by omega
    rw [e] at hr
    exact hr
set_option maxRecDepth 100000 in
theorem blank_yes (n : Nat) (w : World) (h : 16 ≤ n ∧ n ≤ 1024) :
    Calls Try.prog 14 #[.int .i64 n] w fun e w' => ∃ db sb, e = .returned (.tuple #[.pointer (some ⟨db, 0, none⟩), .int .i64 0]) ∧ PD w' w.heap.size db sb (blankD n) ∧ Below w.heap.size w w' := by
  have hmk := zeros_row n h.2
  have HOK := Aside0.mk (blank_ok n h)
  have hfl := flat_len (zeros_len n)
  rw [zeros_size] at hfl
  have HFL := Aside0.mk hfl
  obtain ⟨h1, h2⟩ := h
  clear hfl
  go_enter Try.func14, Try.ntmps14
  go_wp2_with fail
  refine (disk_blocks.calls n true w (by unfold disk_blocks.f; rw [if_pos (by omega)]; simp; omega)).mono ?_
  rintro e w1 ⟨rfl, ⟨k, rfl⟩⟩
  obtain ⟨w1, hw1⟩ : ∃ w1, w1 = w.drewN k := ⟨_, rfl⟩
  rw [← hw1]
  have HB := Aside0.mk (show Below w.heap.size w w1 by rw [hw1]; exact pw_below_drewN (Below.refl _ _) k)
  clear hw1
  go_wp2_with fail
  obtain ⟨w2, hw2⟩ : ∃ w2, w2 = w1.alloc (.cells (u8s (zeros n).flatten).toArray 5) := ⟨_, rfl⟩
  have hb1 := (Below.refl w1.heap.size w1).alloc (Nat.le_refl _) (.cells (u8s (zeros n).flatten).toArray 5)
  have hh1 := heap_alloc_new w1 (.cells (u8s (zeros n).flatten).toArray 5)
  have hsz : w1.heap.size + 1 = w2.heap.size := by rw [hw2]; simp
  rw [← hw2] at hb1 hh1
  rw [← hw2, hsz]
  have hb2 := (Below.refl w2.heap.size w2).alloc (Nat.le_refl _) (.cells #[.slice (some ⟨w1.heap.size, 0, none⟩) (n * 256) (n * 256), .slice none 0 0, .int .i64 (-1), .bool false, .int .i64 0, .int .i64 0, .int .i64 0] 91)
  have hh2 := heap_alloc_new w2 (.cells #[.slice (some ⟨w1.heap.size, 0, none⟩) (n * 256) (n * 256), .slice none 0 0, .int .i64 (-1), .bool false, .int .i64 0, .int .i64 0, .int .i64 0] 91)
  go_ret2
  have hfl := HFL.out
  refine ⟨w2.heap.size, w1.heap.size, rfl, ⟨.slice none 0 0, n * 256, [], ⟨HOK.out, by have := HB.out.size; omega, HB.out.size, fun _ h => by simp [Value.ownBlock] at h, ?_, Kd.R_nil _ _ _ _ _, ?_, ?_⟩⟩, (HB.out.trans (hb1.mono HB.out.size)).trans (hb2.mono (by have := HB.out.size; omega))⟩
  · show _ = some (Obj.cells #[.slice (some ⟨w1.heap.size, 0, none⟩) (zeros n).flatten.length (n * 256), .slice none 0 0, .int .i64 (-1), .bool false, .int .i64 0, .int .i64 0, .int .i64 0] 91 (0, 0))
    rw [hfl]
    exact hh2
  · rw [List.append_nil]
    exact (hb2.block _ (by omega)).trans hh1
  · show (zeros n).flatten.length + 0 = _
    omega
end Disk
end Go.Proofs.Ytopfjmeejpamjaa
namespace Go.Proofs.Ytopfjmeejpamjaa
set_option linter.unusedVariables false
set_option linter.unusedSimpArgs false
open Go.RowKit Go.Proofs.YtopfjmeejpamjaaW.PrintWords Go.Proofs.YtopfjmeejpamjaaW.PrintLast Go.Proofs.YtopfjmeejpamjaaW.PrintMore
namespace Disk
open Go.Disk PDiskDoes PSuper
theorem infoU8 : (Try.prog.info? 5).map (fun i => (i.zero, i.size, i.bytes)) = some (some (.int .u8 0), 1, 1) := by kernel_rfl
theorem eq_nil (a : Addr) (n c : Nat) (W : World) : (binOp BinOp.eql 26 (.slice (some a) n c) (.slice none 0 0)).run Try.prog W = .ok (.bool false) W := by
  kernel_rfl
set_option maxHeartbeats 8000000 in
set_option maxRecDepth 100000 in
theorem clone8 {w : World} (a : Addr) (c : Nat) (xs : List Int) (hC : Kd.C (Kd.int .u8) w (some a) xs.length xs) (hl : xs.length ≤ 262144) :
    Calls Try.prog 51 #[.slice (some a) xs.length c] w fun e w' => ∃ v, e = .returned v ∧ Kd.R (Kd.int .u8) 5 w' w.heap.size (fun _ => True) v xs ∧ v ≠ .slice none 0 0 ∧ Below w.heap.size w w' := by
  have HC := Aside0.mk hC
  clear hC
  have heq := eq_nil a xs.length c
  go_enter Try.func51, Try.ntmps51
  go_wp2_with ((with_reducible refine gate_builtin (b := .append) (xs := #[.tmp 5, .tmp 6]) rfl ?_); at_builtin; refine Hid.out ?_)
  refine Lib.hid ?_
  have HAL := Aside0.mk ((Below.refl w.heap.size w).alloc (Nat.le_refl _) (.cells #[] 5))
  refine Kd.R_append_rows (Kd.int .u8) (Rr := (Kd.int .u8).K (w.alloc (.cells #[] 5))) (w0 := w) w.heap.size rfl (.tmp 5) (.tmp 6) 26 5 (.int .u8 0) 1 rfl Try.underlying26 infoU8 rfl (by decide) (by omega) (.slice (some ⟨w.heap.size, 0, none⟩) 0 0) [] xs (some a) xs.length c (fun _ => True) (fun _ => False) rfl rfl ?aO ?aR (fun x cs h => h) (fun _ hk => hk.elim) (fun _ _ => trivial) HAL.out ?aS ?aL ?_
  case aO => exact ⟨fun _ _ => trivial, OwnRow.lit w w.heap.size (Reps.none _ _) (Nat.le_refl _) (by simp)⟩
  case aR => exact Kd.C_below HC.out HAL.out
  case aS => simp
  case aL => simp; omega
  intro v1 w1 ho hb hg hat
  have HO := Aside0.mk ho
  have HB := Aside0.mk hb
  have HAT := Aside0.mk hat
  clear ho hb hg hat
  go_wp2_with fail
  go_ret
  refine ⟨v1, rfl, by simpa using HO.out, fun e => ?_, HB.out⟩
  rcases HAT.out with h | ⟨b, h, _⟩
  · rw [e] at h; simp [Value.ownBlock] at h
  · rw [e] at h; simp [Value.ownBlock] at h
set_option maxHeartbeats 8000000 in
set_option maxRecDepth 100000 in
theorem block_at {w : World} (sb nb cs n : Nat) (hn : n < nb) (hnb : nb ≤ 1024) (hcs : nb * 256 ≤ cs) :
    Calls Try.prog 81 #[.slice (some ⟨sb, 0, none⟩) (nb * 256) cs, .int .i64 n] w fun e w' => e = .returned (.slice (some ⟨sb, n * 256, none⟩) 256 256) ∧ w' = w := by
  have h1 : (n : Int) * 256 ≤ ((n : Int) + 1) * 256 := by omega
  have h2 : ((n : Int) + 1) * 256 ≤ (cs : Int) := by omega
  have h3 : (0 : Int) ≤ (n : Int) * 256 := by omega
  go_enter Try.func81, Try.ntmps81
  go_wp2_with fail
  go_ret
  refine ⟨?_, rfl⟩
  show Ending.returned (Value.slice (some ⟨sb, n * 256, none⟩) ((n + 1) * 256 - n * 256) ((n + 1) * 256 - n * 256)) = _
  rw [show (n + 1) * 256 - n * 256 = 256 by omega]
theorem u8s_len (l : List Int) : (u8s l).length = l.length := List.length_map _
theorem u8s_lay (F P : List Int) (sp : List Value) (o : Nat) (h : o + P.length ≤ F.length) : (u8s F ++ sp).take o ++ u8s P ++ (u8s F ++ sp).drop (o + (u8s P).length) = u8s (lay F o P) ++ sp := by
  rw [u8s_len, List.take_append_of_le_length (by rw [u8s_len]; omega), List.drop_append_of_le_length (by rw [u8s_len]; omega)]
  unfold lay u8s
  simp [List.map_take, List.map_drop]
theorem copy_in {w : World} {g o dl dc sl sc : Nat} (a : Addr) (F P : List Int) (sp : List Value) (hb : w.heap[g]? = some (.cells (u8s F ++ sp).toArray 5 (0, 0))) (ho : o + P.length ≤ F.length) (hn : P.length = Nat.min sl dl)
    (hs : ∀ j, j < P.length → w.cell? (a.add j) = some (.int .u8 (P.getD j 0))) :
    ∃ w', (Builtin.copy_ #[26, 26] 3 #[.slice (some ⟨g, o, none⟩) dl dc, .slice (some a) sl sc]).run Try.prog w = .ok (.int .i64 (P.length : Int)) w' ∧ w'.heap[g]? = some (.cells (u8s (lay F o P) ++ sp).toArray 5 (0, 0)) ∧ Fr (fun k => k = g) (fun _ _ => False) w w' := by
  have hsz : ∀ j, j < P.length → o + j < (u8s F ++ sp).toArray.size := fun j hj => by rw [List.size_toArray, List.length_append, u8s_len]; omega
  have hr := run_copy_cells (P := Try.prog) w 26 26 3 5 g o dl dc a sl sc (u8s P) Try.underlying26 (by kernel_rfl) (by rw [u8s_len]; exact hn) (fun j v hv => ?_) (fun j hj => ?_) (fun j hj => ?_) (fun v hv => ?_)
  · refine ⟨w.setCells g o (u8s P), ?_, ?_, ?_⟩
    · rw [u8s_len] at hr
      exact hr
    · obtain ⟨cur', h1, h2, h3⟩ := setCells_row (u8s P) o w (u8s F ++ sp).toArray hb (by rw [List.size_toArray, List.length_append, u8s_len, u8s_len]; omega)
      rw [h1]
      have : cur' = (u8s (lay F o P) ++ sp).toArray := by
        rw [← u8s_lay F P sp o ho]
        apply Array.ext'
        rw [h3]
      rw [this]
    · obtain ⟨s1, s2, s3, s4⟩ := setCells_same g (u8s P) o w
      exact ⟨s1, s2, s3, by rw [s4]; exact Nat.le_refl _, fun k _ hk _ => setCells_far _ _ _ hk⟩
  · have hjl : j < P.length := by
      rcases Nat.lt_or_ge j P.length with h | h
      · exact h
      · rw [List.getElem?_eq_none (by rw [u8s_len]; exact h)] at hv; cases hv
    have e : v = .int .u8 (P.getD j 0) := by
      unfold u8s at hv
      rw [List.getElem?_map, List.getElem?_eq_getElem hjl] at hv
      simp at hv
      rw [← hv]
      simp [hjl]
    rw [e]
    exact hs j hjl
  · rw [cell_blk hb, Array.getElem?_eq_getElem (hsz j (by rw [u8s_len] at hj; exact hj))]
    rfl
  · exact frozen_blk hb
  · unfold u8s at hv
    obtain ⟨x, _, rfl⟩ := List.mem_map.1 hv
    rfl
def onM (mask : Int) (k : Nat) : Bool := Go.bits .and .i64 (mask / 2 ^ k) 1 == 1
def tearD (D : Dk) (n : Nat) (bs : List Int) (mask : Int) : Dk := { D with safe := D.safe.set n (tornTo (onM mask) (D.safe.getD n []) bs 4) }
theorem ok_set {D : Dk} (h : Ok D) (n : Nat) (c : List Int) (hc : c.length = 256) (hb : ∀ x ∈ c, 0 ≤ x ∧ x ≤ 255) : Ok { D with safe := D.safe.set n c } := by
  refine ⟨by show 16 ≤ (D.safe.set n c).length ∧ _; rw [List.length_set]; exact h.few, fun b hbm => ?_, fun b hbm => ?_, fun p hp => ?_, h.left⟩
  · rcases List.mem_or_eq_of_mem_set hbm with h1 | h1
    · exact h.len b h1
    · rw [h1]; exact hc
  · rcases List.mem_or_eq_of_mem_set hbm with h1 | h1
    · exact h.byte b h1
    · rw [h1]; exact hb
  · have h1 := h.at_ p hp
    show 0 ≤ p.1 ∧ p.1 < (D.safe.set n c).length ∧ _
    rw [List.length_set]
    exact h1
end Disk
end Go.Proofs.Ytopfjmeejpamjaa
end
section
namespace Go.Proofs.Ytopfjmeejpamjaa
set_option linter.unusedVariables false
set_option linter.unusedSimpArgs false
open Go.RowKit Go.Shelf
attribute [local go_sem] Oper.semAt_some
namespace Disk
open Go.Disk
structure Ent where
  i : Nat
  n : Int
  a : Option Addr
  l : Nat
  c : Nat
abbrev Ent.v (x : Ent) : Value := .slice x.a x.l x.c
def upto (f : Nat → Ent) (k : Nat) : List Ent := (List.range k).map f
theorem upto_succ (f : Nat → Ent) (k : Nat) : upto f (k + 1) = upto f k ++ [f k] := by simp [upto, List.range_succ]
theorem upto_length (f : Nat → Ent) (k : Nat) : (upto f k).length = k := by simp [upto]
set_option maxRecDepth 100000 in
set_option maxHeartbeats 2000000 in
theorem back1_in (F : Fence) (n : Nat) (h8 : F.fn 98) (hro : F.round = none) (hn : 1 ≤ n) (l Bs n₀ b len cap : Nat) (E : Nat → Ent) (hE : ∀ j, (E j).i = j) (hreach : len ≤ 1000000000) (hb : b < n₀) (J Jx : List Ent → World → Prop)
    (hY : ∀ pre x W, J pre W → pre.length < len → YieldAt F (n - 1) Try.prog l #[.int .i64 (x.i : Int), .agg #[.int .i64 x.n, x.v]] W fun e W' =>
      (e = .returned (.bool true) ∧ J (pre ++ [x]) W' ∧ Below n₀ W W') ∨ (e = .returned (.bool false) ∧ Jx (pre ++ [x]) W'))
    (W : World) (hBs : W.cell? ⟨Bs, 0, none⟩ = some (.slice (some ⟨b, 0, none⟩) len cap)) (hBk : ∀ W', Below n₀ W W' → W'.cell? ⟨Bs, 0, none⟩ = some (.slice (some ⟨b, 0, none⟩) len cap)) (hc : ∀ j, j < len → W.cell? ⟨b, j * 2, none⟩ = some (.int .i64 (E j).n) ∧ W.cell? ⟨b, j * 2 + 1, none⟩ = some (E j).v) (h0 : J [] W) :
    CallsIn F n Try.prog 98 #[.func (.yield l) #[] #[], .pointer (some ⟨Bs, 0, none⟩)] W fun e W' => (∃ v, e = .returned v) ∧
      ((∃ ys, ys = upto (fun j => E (len - 1 - j)) len ∧ J ys W') ∨ (∃ pre, (∃ k, k ≤ len ∧ pre = upto (fun j => E (len - 1 - j)) k) ∧ Jx pre W')) := by
  refine callsIn_of_wp Try.func98 rfl h8 ?_ hro
  simp only [Try.ntmps98, List.size_toArray, List.length_cons, List.length_nil, Nat.reduceAdd, Nat.reduceSub, Array.replicate_succ, Array.replicate_zero, List.push_toArray, List.append_toArray, List.nil_append, List.cons_append]
  gi_wp2
  gi_loopw [3] (fun i wr => ∃ k : Nat, k ≤ len ∧ i = .int .i64 ((len : Int) - 1 - k) ∧ J (upto (fun j => E (len - 1 - j)) k) wr ∧ Below n₀ W wr)
    (fun i _ => (intOf i + 1).toNat)
  case atStart => exact ⟨0, Nat.zero_le _, by simp, h0, Below.refl _ _⟩
  case round =>
    obtain ⟨k, hk, rfl, hJs, hnx⟩ := hrel
    have hBx := hBk wr hnx
    by_cases hlt : k < len
    · obtain ⟨m, hm⟩ : ∃ m : Nat, m = len - 1 - k := ⟨_, rfl⟩
      have hmi : (len : Int) - 1 - k = m := by omega
      have hml : m < len := by omega
      have c0 : wr.cell? ⟨b, m * 2, none⟩ = some (.int .i64 (E m).n) := (hnx.cell (p := ⟨b, m * 2, none⟩) hb).trans (hc m hml).1
      have c1 : wr.cell? ⟨b, m * 2 + 1, none⟩ = some (E m).v := (hnx.cell (p := ⟨b, m * 2 + 1, none⟩) hb).trans (hc m hml).2
      obtain ⟨fn, tmps, assign, body, hy, hR⟩ := hY _ (E m) wr hJs (by rw [upto_length]; exact hlt)
      rw [hE m] at hy
      have hfk : E m = E (len - 1 - k) := by rw [hm]
      obtain ⟨⟨xi, xn, xa, xl, xc⟩, hx⟩ : ∃ x, x = E m := ⟨_, rfl⟩
      rw [← hx] at c0 c1 hy hR hfk
      have HFK := Lib.hid hfk
      simp only [Ent.v] at hy c1
      rw [hmi]
      clear hm hx hfk
      gi_wp2
      refine hR.mono ?_
      rintro e W3 (⟨rfl, hJ3, hk3⟩ | ⟨rfl, hJx3⟩)
      · gi_wp2
        go_roundw
        case rel => exact ⟨k + 1, by omega, by simp; omega, by rw [upto_succ, ← HFK.out]; exact hJ3, hnx.trans hk3⟩
        case measure => first | (simp [intOf]; done) | (simp [intOf]; omega)
      · gi_wp2
        refine bodyPost_ret (results_none rfl _ _ _) rfl ?_
        exact ⟨⟨_, rfl⟩, .inr ⟨_, ⟨k + 1, by omega, by rw [upto_succ, HFK.out]⟩, hJx3⟩⟩
    · obtain rfl : k = len := by omega
      have hmi : (k : Int) - 1 - k = -1 := by omega
      rw [hmi]
      gi_wp2
      go_end0
      exact ⟨⟨_, rfl⟩, .inl ⟨_, rfl, hJs⟩⟩
set_option maxRecDepth 100000 in
set_option maxHeartbeats 1000000 in
theorem back1_nil_in (F : Fence) (n : Nat) (h8 : F.fn 98) (hro : F.round = none) (l Bs : Nat) (J : List Ent → World → Prop) (W : World) (hBs : W.cell? ⟨Bs, 0, none⟩ = some (.slice none 0 0)) (h0 : J [] W) :
    CallsIn F n Try.prog 98 #[.func (.yield l) #[] #[], .pointer (some ⟨Bs, 0, none⟩)] W fun e W' => (∃ v, e = .returned v) ∧ J [] W' := by
  refine callsIn_of_wp Try.func98 rfl h8 ?_ hro
  simp only [Try.ntmps98, List.size_toArray, List.length_cons, List.length_nil, Nat.reduceAdd, Nat.reduceSub, Array.replicate_succ, Array.replicate_zero, List.push_toArray, List.append_toArray, List.nil_append, List.cons_append]
  gi_wp2
  gi_loopw [3] (fun i wr => i = .int .i64 (-1) ∧ J [] wr) (fun _ _ => 0)
  case atStart => exact ⟨rfl, h0⟩
  case round =>
    obtain ⟨rfl, hJs⟩ := hrel
    gi_wp2
    go_end0
    exact ⟨⟨_, rfl⟩, hJs⟩
set_option maxRecDepth 100000 in
set_option maxHeartbeats 1000000 in
theorem back_in (F : Fence) (n : Nat) (h6 : F.fn 94) (hro : F.round = none) (a : Option Addr) (len cap : Nat) (w : World) :
    CallsIn F n Try.prog 94 #[.slice a len cap] w fun e w' => e = .returned (.func (.func 98) #[] #[.pointer (some ⟨w.heap.size, 0, none⟩)]) ∧ w' = w.alloc (.cells #[.slice a len cap] 82) := by
  refine callsIn_of_wp Try.func94 rfl h6 ?_ hro
  simp only [Try.ntmps94, List.size_toArray, List.length_cons, List.length_nil, Nat.reduceAdd, Nat.reduceSub, Array.replicate_succ, Array.replicate_zero, List.push_toArray, List.append_toArray, List.nil_append, List.cons_append]
  gi_wp2
  go_ret
  exact ⟨rfl, rfl⟩
def Ents (n₀ : Nat) (W : World) (sv : Value) (len : Nat) (E : Nat → Ent) : Prop :=
  (sv = .slice none 0 0 ∧ len = 0) ∨ ∃ b cap, sv = .slice (some ⟨b, 0, none⟩) len cap ∧ b < n₀ ∧ ∀ j, j < len → W.cell? ⟨b, j * 2, none⟩ = some (.int .i64 (E j).n) ∧ W.cell? ⟨b, j * 2 + 1, none⟩ = some (E j).v
theorem Ents.below {n₀ : Nat} {A B : World} (h : Below n₀ A B) {sv : Value} {len : Nat} {E : Nat → Ent} : Ents n₀ A sv len E → Ents n₀ B sv len E
  | .inl e => .inl e
  | .inr ⟨b, cap, e, hb, hc⟩ => .inr ⟨b, cap, e, hb, fun j hj => ⟨(h.cell (p := ⟨b, j * 2, none⟩) hb).trans (hc j hj).1, (h.cell (p := ⟨b, j * 2 + 1, none⟩) hb).trans (hc j hj).2⟩⟩
theorem back_stops (F : Fence) (n : Nat) (h8 : F.fn 98) (hro : F.round = none) (hn : 1 ≤ n) (Bs n₀ len : Nat) (sv : Value) (E : Nat → Ent) (hE : ∀ j, (E j).i = j) (hreach : len ≤ 1000000000) (w : World) (hBs : Bs < n₀) (hn₀ : n₀ ≤ w.heap.size)
    (hc : w.cell? ⟨Bs, 0, none⟩ = some sv) (hI : Ents n₀ w sv len E) :
    SeqStopsK F n Try.prog 98 #[.pointer (some ⟨Bs, 0, none⟩)] (fun x : Ent => #[Value.int .i64 (x.i : Int), .agg #[.int .i64 x.n, x.v]]) (Below n₀) (fun ys => ys = upto (fun j => E (len - 1 - j)) len)
      (fun pre => ∃ k, k ≤ len ∧ pre = upto (fun j => E (len - 1 - j)) k) len w := fun l J Jx W hW _ _ hY h0 => by
  have hW' := hW.mono hn₀
  have hc' := (hW'.cell (p := ⟨Bs, 0, none⟩) hBs).trans hc
  rcases hI.below hW' with ⟨rfl, rfl⟩ | ⟨b, cap, rfl, hb, hcs⟩
  · exact (back1_nil_in F n h8 hro l Bs J W hc' h0).mono fun e W' ⟨he, hj⟩ => ⟨he, .inl ⟨_, rfl, hj⟩⟩
  · exact back1_in F n h8 hro hn l Bs n₀ b len cap E hE hreach hb J Jx hY W hc' (fun W' h => (h.cell (p := ⟨Bs, 0, none⟩) hBs).trans hc') hcs h0
end Disk
end Go.Proofs.Ytopfjmeejpamjaa
namespace Go.Proofs.Ytopfjmeejpamjaa
set_option linter.unusedVariables false
set_option linter.unusedSimpArgs false
open Go.RowKit Go.Proofs.YtopfjmeejpamjaaW.PrintWords Go.Proofs.YtopfjmeejpamjaaW.PrintLast Go.Proofs.YtopfjmeejpamjaaW.PrintMore
namespace Disk
open Go.Disk PDiskDoes PSuper
theorem W_at {e : Nat} {w : World} {base sb : Nat} {vw : Value} {ws : List (Int × List Int)} (h : Kd.R kW e w base (fun k => k ≠ sb) vw ws) (j : Nat) (hj : j < ws.length) :
    ∃ g cap vb, vw = .slice (some ⟨g, 0, none⟩) ws.length cap ∧ w.cell? ⟨g, j * 2, none⟩ = some (.int .i64 (ws[j].1)) ∧ w.cell? ⟨g, j * 2 + 1, none⟩ = some vb ∧ Kd.R (Kd.int .u8) 5 w base (fun k => k ≠ sb) vb ws[j].2 ∧ g ≠ sb ∧ g < w.heap.size ∧ ws.length ≤ cap := by
  obtain ⟨h0, inner, ⟨hl, ho⟩, hr1, hr2⟩ := h
  have hm := hr2 j _ (List.getElem?_eq_getElem hj)
  obtain ⟨c0, c1, ee, hk0, vb, hk1, hR⟩ := hm
  rcases ho with ⟨_, hz⟩ | ⟨g, cap, cur, rfl, hbase, hb, hn, hmx, hcs, hcur⟩
  · omega
  · have hk0' : c0 = [.int .i64 ws[j].1] := hk0
    subst hk0' hk1
    have hcell : ∀ t, t < 2 → w.cell? ⟨g, j * 2 + t, none⟩ = ((inner.drop (j * 2)).take 2)[t]? := fun t ht => by
      have hsz : kW.sz = 2 := rfl
      rw [hsz] at hcur hcs hl
      rw [cell_blk hb, List.getElem?_take_of_lt ht, List.getElem?_drop, ← hcur, List.getElem?_take_of_lt (by omega), Array.getElem?_toList]
    have hsz : kW.sz = 2 := rfl
    rw [hsz] at ee
    rw [ee] at hcell
    have q0 := hcell 0 (by omega)
    have q1 := hcell 1 (by omega)
    simp at q0 q1
    refine ⟨g, cap, vb, rfl, q0, q1, Kd.R_mono hR (fun k hk => hk.1), ?_, blk_lt hb, hn⟩
    exact h0 g rfl
def crashTo : Dk → List (Int × List Int) → List Int → Dk
  | D, p :: ws, m :: ms => crashTo (tearD D p.1.toNat p.2 m) ws ms
  | D, _, _ => D
def crashD (D : Dk) (ms : List Int) : Dk := { crashTo D D.waits ms with waits := [], off := false, left := -1 }
end Disk
end Go.Proofs.Ytopfjmeejpamjaa
namespace Go.Proofs.Ytopfjmeejpamjaa
set_option linter.unusedVariables false
set_option linter.unusedSimpArgs false
open Go.RowKit Go.Shelf Go.Proofs.YtopfjmeejpamjaaW.PrintWords Go.Proofs.YtopfjmeejpamjaaW.PrintLast Go.Proofs.YtopfjmeejpamjaaW.PrintMore
attribute [local go_sem] Oper.semAt_some
namespace Disk
open Go.Disk
theorem cells_kept {W W' : World} {row : Option Nat} {B t : Nat} {cs : Array Value} (h : W.heap[B]? = some (.cells cs t (0, 0))) (hg : W.grownBy W' row) (hr : ∀ r, row = some r → ∃ o : Obj, W.heap[r]? = some o ∧ o.isCells = false) : W'.heap[B]? = some (.cells cs t (0, 0)) :=
  (hg.block B (blk_lt h) (fun e => by obtain ⟨o, ho, hc⟩ := hr B e.symm; rw [h] at ho; cases ho; cases hc)).trans h
set_option maxRecDepth 100000 in
set_option maxHeartbeats 4000000 in
theorem now_v {w : World} {base db sb : Nat} {D : Dk} {vw : Value} {cs : Nat} {sp : List Value} (h : PDx w base db sb D vw cs sp) (N : Nat) (hN : N < D.safe.length) (E : Nat → Ent) (hE : ∀ j, (E j).i = j) (len : Nat) (hreach : len ≤ 1000000000) (hI : Ents w.heap.size w vw len E) :
    Calls Try.prog 78 #[.pointer (some ⟨db, 0, none⟩), .int .i64 N] w fun e W' =>
      ((∃ j, j < len ∧ (E j).n = N ∧ (∀ i, j < i → i < len → (E i).n ≠ N) ∧ e = .returned (E j).v) ∨ ((∀ j, j < len → (E j).n ≠ N) ∧ e = .returned (.slice (some ⟨sb, N * 256, none⟩) 256 256))) ∧ Below w.heap.size w W' := by
  refine (callsIn_wide (n := 4)).1 ?_
  obtain ⟨A, L, C, hvw⟩ : ∃ A L C, vw = .slice A L C := by
    rcases hI with ⟨rfl, _⟩ | ⟨b, cap, rfl, _⟩
    · exact ⟨_, _, _, rfl⟩
    · exact ⟨_, _, _, rfl⟩
  subst hvw
  have HX := Aside0.mk h
  have c1 : w.cell? ⟨db, 1, none⟩ = some (.slice A L C) := cell_blk h.cells
  have hdb : db < w.heap.size := blk_lt h.cells
  have hro : Fence.wide.round = none := rfl
  have hf1 : Fence.wide.fn 94 := trivial
  have hf2 : Fence.wide.fn 98 := trivial
  have h1 : 1 ≤ 4 := by omega
  clear h
  refine callsIn_of_wp_marks Try.func78 rfl trivial ?_ hro
  simp only [Try.ntmps78, List.size_toArray, List.length_cons, List.length_nil, Nat.reduceAdd, Nat.reduceSub, Array.replicate_succ, Array.replicate_zero, List.push_toArray, List.append_toArray, List.nil_append, List.cons_append]
  gi_wp2_with (gi_at_call 94; refine (back_in Fence.wide _ trivial hro _ _ _ _).mono ?_; rintro e w' ⟨rfl, rfl⟩)
  have bN := Boxed.new w 3 (.int .i64 N)
  have bR := Boxed.new (w.alloc (.cells #[.int .i64 N] 3)) 26 (.slice none 0 0)
  have bS := Boxed.new ((w.alloc (.cells #[.int .i64 N] 3)).alloc (.cells #[.slice none 0 0] 26)) 82 (.slice A L C)
  rw [World.size_alloc] at bR
  rw [World.size_alloc, World.size_alloc] at bS
  obtain ⟨W0, hW0⟩ : ∃ W0, W0 = ((w.alloc (.cells #[.int .i64 N] 3)).alloc (.cells #[.slice none 0 0] 26)).alloc (.cells #[.slice A L C] 82) := ⟨_, rfl⟩
  have hs0 : W0.heap.size = w.heap.size + 1 + 1 + 1 := by rw [hW0]; simp
  have hB0 : Below w.heap.size w W0 := by rw [hW0]; exact (((Below.refl _ w).alloc (Nat.le_refl _) _).alloc (by simp) _).alloc (by simp; omega) _
  replace bN := (bN.alloc (.cells #[.slice none 0 0] 26)).alloc (.cells #[.slice A L C] 82)
  replace bR := bR.alloc (.cells #[.slice A L C] 82)
  rw [← hW0] at bN bR bS
  rw [← hW0]
  clear hW0
  refine wpIn_rangeFunc_ownH hro h1 (gf := 98) (lb := #[.pointer (some ⟨w.heap.size + 1 + 1, 0, none⟩)]) rfl hf2 (enters_of Try.func98 (by kernel_rfl) rfl)
    (back_stops Fence.wide 3 hf2 hro (by omega) (w.heap.size + 1 + 1) (w.heap.size + 1 + 1 + 1) len _ E hE hreach W0 (by omega) (by omega) bS.cell ?ents) belowK_t (belowK_b (by omega)) (Below.refl _ _) (fun _ => rfl)
    (fun (pre : List Ent) W => ((∀ y ∈ pre, y.n ≠ N) ∧ Boxed W w.heap.size 3 (.int .i64 N) ∧ Boxed W (w.heap.size + 1) 26 (.slice none 0 0) ∧ W0.heap.size ≤ W.heap.size) ∧ Below w.heap.size w W)
    (fun c pre W => (c = .ret ∧ ∃ (ini : List Ent) (last : Ent), pre = ini ++ [last] ∧ (∀ y ∈ ini, y.n ≠ N) ∧ last.n = N ∧ Boxed W (w.heap.size + 1) 26 last.v) ∧ Below w.heap.size w W)
    ?hI ?hIx ⟨⟨by simp, bN, bR, Nat.le_refl _⟩, hB0⟩
    (fun x a' W => ∃ Bx, w.heap.size + 1 + 1 < Bx ∧ Bx < W.heap.size ∧ W.heap[Bx]? = some (.cells #[.int .i64 x.n, x.v] 94 (0, 0)) ∧ a' = { tmps := #[.pointer (some ⟨db, 0, none⟩), .int .i64 N, undef, .pointer (some ⟨w.heap.size, 0, none⟩), .pointer (some ⟨w.heap.size + 1, 0, none⟩), undef, .pointer (some ⟨Bx, 0, none⟩), .pointer (some ⟨db, 0, none⟩), .pointer (some ⟨db, 0, none⟩), .pointer (some ⟨db, 1, none⟩), .slice A L C, .func (.func 98) #[] #[.pointer (some ⟨w.heap.size + 1 + 1, 0, none⟩)], .int .i64 (x.i : Int), .agg #[.int .i64 x.n, x.v], undef, undef, undef, undef, undef, undef, undef, undef, undef, undef, undef, undef], defers := [] })
    ?hAx ?assign ?body ?done ?stop
  case ents =>
    have h2 : Ents w.heap.size W0 (.slice A L C) len E := hI.below hB0
    rcases h2 with h2 | ⟨b, cap, h3, h4, h5⟩
    · exact .inl h2
    · exact .inr ⟨b, cap, h3, by omega, h5⟩
  case hI => exact OwnFrom.and (Own.from (fun s X Y row hs hg hr => ⟨hs.1, cells_kept hs.2.1 hg hr, cells_kept hs.2.2.1 hg hr, Nat.le_trans hs.2.2.2 hg.size⟩) _) (ownFrom_below (Nat.le_refl _) (by omega))
  case hIx => exact fun c => OwnFrom.and (Own.from (fun s X Y row hs hg hr => by obtain ⟨hc, ini, last, e1, e2, e3, e4⟩ := hs; exact ⟨hc, ini, last, e1, e2, e3, cells_kept e4 hg hr⟩) _) (ownFrom_below (Nat.le_refl _) (by omega))
  case hAx => exact fun x a' _ X Y row hs hg hr => by obtain ⟨Bx, h1, h2, h3, h4⟩ := hs; exact ⟨Bx, h1, Nat.lt_of_lt_of_le h2 hg.size, cells_kept h3 hg (fun r e => (hr r e).2), h4⟩
  case assign =>
    rintro l pre x W K ⟨⟨hp, b1, b2, hsz⟩, hB⟩ hK
    gi_wp2
    exact hK _ _ ((KeepsOthers.alloc _ _).from _) ((Below.refl _ W).alloc (by omega) _) ⟨⟨hp, b1.alloc _, b2.alloc _, by simp; omega⟩, hB.alloc hB.size _⟩ ⟨W.heap.size, by omega, by simp, heap_alloc_new W _, rfl⟩
  case body =>
    rintro l pre x a' W hl ⟨r, hr⟩ ⟨⟨hp, b1, b2, hsz⟩, hB⟩ ⟨Bx, hBx, hBl, bX, rfl⟩ hlt
    obtain ⟨xi, xn, xa, xl, xc⟩ := x
    have x0 : W.cell? ⟨Bx, 0, none⟩ = some (.int .i64 xn) := cell_blk bX
    have x1 : W.cell? ⟨Bx, 1, none⟩ = some (.slice xa xl xc) := cell_blk bX
    have cN := b1.cell
    have cR := b2.cell
    have fR := b2.frozen
    by_cases hx : xn = N
    · subst hx
      gi_wp2
      exact ⟨(KeepsOthers.setCell _ _ _).from _, ⟨rfl, pre, ⟨xi, N, xa, xl, xc⟩, rfl, hp, rfl, blk_set b2 0 (.slice xa xl xc)⟩, hB.setCell (p := ⟨w.heap.size + 1, 0, none⟩) (by simp) _⟩
    · have hxb : (xn == (N : Int)) = false := by simpa using hx
      gi_wp2
      exact ⟨KeepsFrom.refl _ _, Below.refl _ _, ⟨fun y hy => (List.mem_append.1 hy).elim (hp y) (fun e => by simp at e; subst e; exact hx), b1, b2, by omega⟩, hB⟩
  case done =>
    rintro D' ys W hD rfl ⟨⟨hp, b1, b2, hsz⟩, hB⟩ hK
    have cN := b1.cell
    have cR := b2.cell
    have fR := b2.frozen
    have hx := HX.out.below hB
    have d0 : W.cell? ⟨db, 0, none⟩ = some (.slice (some ⟨sb, 0, none⟩) (D.safe.length * 256) cs) := by rw [← flatLen hx.ok]; exact cell_blk hx.cells
    have hroom : D.safe.length * 256 ≤ cs := by have := hx.room; have := flatLen hx.ok; omega
    have hfew := hx.ok.few
    have HP := Aside0.mk hp
    clear hx hp
    gi_wp2
    refine wpIn_wide.2 ?_
    have m0 : ∀ m : Go.Reg.In (fun x => x = W.drew), m.w.cell? ⟨db, 0, none⟩ = some (.slice (some ⟨sb, 0, none⟩) (D.safe.length * 256) cs) := fun m => by rw [m.h]; exact d0
    have m1 : ∀ m : Go.Reg.In (fun x => x = W.drew), m.w.cell? ⟨w.heap.size, 0, none⟩ = some (.int .i64 N) := fun m => by rw [m.h]; exact cN
    refine Go.Reg.region (fun x => x = W.drew) [.s, .s, .s, .s, .s, .x, .x] (by kernel_rfl) (by kernel_rfl) rfl (fun ne => ?_)
    refine Go.Reg.lex_q 5 _ _ _ _ (by rfl) ?_; simp only [List.take_succ_cons, List.take_zero, List.drop_succ_cons, List.drop_zero]; (repeat (go_big_quiet_step (rfl))); refine wpQuiet_nil ?_
    refine Go.Reg.step_x (by rfl) (fun K hKK => ?_)
    go_wp2_with fail
    refine (block_at sb D.safe.length cs N hN (by omega) hroom).mono ?_
    rintro e w1 ⟨rfl, rfl⟩
    go_wp2_with fail
    refine hKK.out _ _ ?_
    clear hKK K
    refine Go.Reg.step_x (by rfl) (fun K hKK => ?_)
    go_wp2_with fail
    refine hKK.out _ _ ?_
    clear hKK K
    refine Go.Reg.lex_nil ?_
    gi_wp2
    obtain ⟨V, hV⟩ : ∃ V, V = (W.setCell ⟨w.heap.size + 1, 0, none⟩ (.slice (some ⟨sb, N * 256, none⟩) 256 256)).drew := ⟨_, rfl⟩
    have hK' : V.heap[D']? = some (.deferred (some [])) := by rw [hV]; exact (KeepsOthers.setCell W ⟨w.heap.size + 1, 0, none⟩ (.slice (some ⟨sb, N * 256, none⟩) 256 256)).same D' _ hK rfl
    have hv : V.heap[w.heap.size + 1]? = some (.cells #[.slice (some ⟨sb, N * 256, none⟩) 256 256] 26 (0, 0)) := by rw [hV]; exact blk_set b2 0 _
    have hBV : Below w.heap.size w V := by rw [hV]; exact below_drew1 (hB.setCell (p := ⟨w.heap.size + 1, 0, none⟩) (by simp) _)
    rw [← hV]
    refine ⟨by simp, .inl ⟨_, _, rfl, run_takeDeferred hK', ?_⟩⟩
    have hc5 := cell_kept (show V.cell? ⟨w.heap.size + 1, 0, none⟩ = some (.slice (some ⟨sb, N * 256, none⟩) 256 256) from cell_blk hv) (grownBy_putObj' _ D' (.deferred none)) (fun r e => by cases e; exact ⟨_, hK', rfl⟩)
    refine ⟨.slice (some ⟨sb, N * 256, none⟩) 256 256, ?_, .inr ⟨fun j hj => ?_, rfl⟩, hBV.trans (belowK_b (w := w) (Nat.le_refl _) V D' _ _ (by omega) hK' rfl rfl)⟩
    · simp [results, Try.f78, go_sem, hc5]
    · have h1 := HP.out (E j) (by
        simp only [upto, List.mem_map, List.mem_range]
        exact ⟨len - 1 - j, by omega, by rw [show len - 1 - (len - 1 - j) = j by omega]⟩)
      exact h1
  case stop =>
    rintro D' c pre W hD ⟨k, hk, rfl⟩ ⟨⟨rfl, ini, last, e1, e2, e3, b2⟩, hB⟩ hK
    gi_wp2
    refine ⟨by simp, .inl ⟨_, _, rfl, run_takeDeferred hK, ?_⟩⟩
    obtain ⟨k', rfl⟩ : ∃ k', k = k' + 1 := by
      cases k with
      | zero => simp [upto] at e1
      | succ k' => exact ⟨k', rfl⟩
    rw [upto_succ] at e1
    obtain ⟨h5, h6⟩ := List.append_inj' e1 rfl
    obtain rfl : E (len - 1 - k') = last := by simpa using h6
    subst h5
    have hc5 := cell_kept b2.cell (grownBy_putObj' _ D' (.deferred none)) (fun r e => by cases e; exact ⟨_, hK, rfl⟩)
    refine ⟨(E (len - 1 - k')).v, ?_, .inl ⟨len - 1 - k', by omega, e3, fun i hi1 hi2 => ?_, rfl⟩, hB.trans (belowK_b (w := w) (Nat.le_refl _) W D' _ _ (by omega) hK rfl rfl)⟩
    · simp [results, Try.f78, go_sem, hc5]
    · exact e2 (E i) (by
        simp only [upto, List.mem_map, List.mem_range]
        exact ⟨len - 1 - i, by omega, by rw [show len - 1 - (len - 1 - i) = i by omega]⟩)
end Disk
end Go.Proofs.Ytopfjmeejpamjaa
namespace Go.Proofs.Ytopfjmeejpamjaa
set_option linter.unusedVariables false
set_option linter.unusedSimpArgs false
open Go.RowKit Go.Proofs.YtopfjmeejpamjaaW.PrintWords Go.Proofs.YtopfjmeejpamjaaW.PrintLast Go.Proofs.YtopfjmeejpamjaaW.PrintMore
namespace Disk
open Go.Disk PDiskDoes PSuper
def lastW : List (Int × List Int) → Int → Option (List Int)
  | [], _ => none
  | p :: ws, n => match lastW ws n with
    | some b => some b
    | none => if p.1 = n then some p.2 else none
theorem lastW_none : ∀ (ws : List (Int × List Int)) (n : Int), (∀ j (h : j < ws.length), ws[j].1 ≠ n) → lastW ws n = none
  | [], _, _ => rfl
  | p :: ws, n, h => by
    have h1 := lastW_none ws n (fun j hj => h (j + 1) (by simpa using hj))
    have h2 := h 0 (by simp)
    unfold lastW
    rw [h1]
    exact if_neg h2
theorem lastW_hit : ∀ (ws : List (Int × List Int)) (n : Int) (j : Nat) (hj : j < ws.length), ws[j].1 = n → (∀ i (h : i < ws.length), j < i → ws[i].1 ≠ n) → lastW ws n = some ws[j].2
  | p :: ws, n, 0, _, h, hl => by
    have h1 := lastW_none ws n (fun i hi => hl (i + 1) (by simpa using hi) (by omega))
    unfold lastW
    rw [h1]
    exact if_pos h
  | p :: ws, n, j + 1, hj, h, hl => by
    have h1 := lastW_hit ws n j (by simpa using hj) h (fun i hi hji => hl (i + 1) (by simpa using hi) (by omega))
    unfold lastW
    rw [h1]
    rfl
def nowD (D : Dk) (n : Int) : List Int := (lastW D.waits n).getD (D.safe.getD n.toNat [])
theorem safe_C {w : World} {base db sb cs : Nat} {D : Dk} {vw : Value} {sp : List Value} (h : PDx w base db sb D vw cs sp) (n : Nat) (hn : n < D.safe.length) : Kd.C (Kd.int .u8) w (some ⟨sb, n * 256, none⟩) 256 D.safe[n] := by
  have hl := h.ok.len _ (List.getElem_mem hn)
  have hb := flat_block h.ok.len n hn
  refine ⟨hl, by omega, fun _ => ⟨_, rfl, fun j p hj => ⟨[.int .u8 p], rfl, rfl, fun i u hu => ?_⟩⟩⟩
  have hjl : j < 256 := by
    rcases Nat.lt_or_ge j 256 with h' | h'
    · exact h'
    · rw [List.getElem?_eq_none (by omega)] at hj; cases hj
  have hi : i = 0 := by
    rcases Nat.eq_zero_or_pos i with h' | h'
    · exact h'
    · rw [List.getElem?_eq_none (by simp; omega)] at hu; cases hu
  subst hi
  simp at hu
  subst hu
  have hadd : (⟨sb, n * 256, none⟩ : Addr).add (j * (Kd.int .u8).sz + 0) = ⟨sb, n * 256 + j, none⟩ := by
    rw [show j * (Kd.int .u8).sz + 0 = j from by show j * 1 + 0 = j; omega]
    unfold Addr.add
    split <;> simp_all
  rw [hadd, cell_blk h.safe]
  rw [← hb, List.getElem?_take_of_lt hjl, List.getElem?_drop] at hj
  have hlt : n * 256 + j < D.safe.flatten.length := by
    rcases Nat.lt_or_ge (n * 256 + j) D.safe.flatten.length with h' | h'
    · exact h'
    · rw [List.getElem?_eq_none h'] at hj; cases hj
  rw [List.getElem?_toArray, List.getElem?_append_left (by rw [u8s_len]; exact hlt)]
  unfold u8s
  rw [List.getElem?_map, hj]
  rfl
theorem now_any {w : World} {base db sb : Nat} {D : Dk} (h : PD w base db sb D) (N : Int) (hN : 0 ≤ N ∧ N < D.safe.length) (hfew : D.waits.length ≤ 1000000000) :
    Calls Try.prog 78 #[.pointer (some ⟨db, 0, none⟩), .int .i64 N] w fun e W' => ∃ a c, e = .returned (.slice (some a) 256 c) ∧ 256 ≤ c ∧ Kd.C (Kd.int .u8) W' (some a) 256 (nowD D N) ∧ Below w.heap.size w W' := by
  obtain ⟨vw, cs, sp, h⟩ := h
  obtain ⟨n, rfl⟩ : ∃ n : Nat, N = n := ⟨N.toNat, by omega⟩
  have hn : n < D.safe.length := by omega
  have hrow := h.waits
  have hall : ∀ j, ∃ x : Ent, x.i = j ∧ ∀ hj : j < D.waits.length, ∃ g, x.n = D.waits[j].1 ∧ (∃ cap, vw = .slice (some ⟨g, 0, none⟩) D.waits.length cap) ∧ g < w.heap.size ∧ w.cell? ⟨g, j * 2, none⟩ = some (.int .i64 x.n) ∧ w.cell? ⟨g, j * 2 + 1, none⟩ = some x.v ∧ Kd.R (Kd.int .u8) 5 w 0 (fun k => k ≠ sb) x.v D.waits[j].2 := by
    intro j
    by_cases hj : j < D.waits.length
    · obtain ⟨g, cap, vb, hv, c0, c1, hr, _, hg, _⟩ := W_at hrow j hj
      obtain ⟨A, c, rfl⟩ := Kd.R_slice hr
      exact ⟨⟨j, D.waits[j].1, A, D.waits[j].2.length, c⟩, rfl, fun _ => ⟨g, rfl, ⟨cap, hv⟩, hg, c0, c1, hr⟩⟩
    · exact ⟨⟨j, 0, none, 0, 0⟩, rfl, fun h' => absurd h' hj⟩
  obtain ⟨E, hE⟩ := Classical.axiomOfChoice hall
  have hI : Ents w.heap.size w vw D.waits.length E := by
    by_cases hz : D.waits.length = 0
    · obtain ⟨h0, inner, ⟨hl, ho⟩, hr1, hr2⟩ := hrow
      rcases ho with ⟨hv, _⟩ | ⟨g, cap, cur, hv, _, hb, _⟩
      · exact .inl ⟨hv, hz⟩
      · exact .inr ⟨g, cap, hv, blk_lt hb, fun j hj => by omega⟩
    · obtain ⟨g0, _, ⟨cap, hv⟩, hg, _⟩ := (hE 0).2 (by omega)
      refine .inr ⟨g0, cap, hv, hg, fun j hj => ?_⟩
      obtain ⟨g, _, ⟨cap', hv'⟩, _, c0, c1, _⟩ := (hE j).2 hj
      rw [hv] at hv'
      cases hv'
      exact ⟨c0, c1⟩
  refine (now_v h n hn E (fun j => (hE j).1) D.waits.length hfew hI).mono ?_
  rintro e W' ⟨⟨j, hj, hjn, hjl, rfl⟩ | ⟨hno, rfl⟩, hB⟩
  · obtain ⟨g, en, _, _, _, _, hr⟩ := (hE j).2 hj
    obtain ⟨h1, h2, h3⟩ := Kd.R_reads' (Kd.R_below hr hB)
    have hlen := (h.ok.at_ _ (List.getElem_mem hj)).2.2.1
    have hnow : nowD D (n : Int) = D.waits[j].2 := by
      unfold nowD
      rw [lastW_hit D.waits n j hj (by rw [← en]; exact hjn) (fun i hi hji => by rw [← ((hE i).2 hi).choose_spec.1]; exact hjl i hji hi)]
      rfl
    obtain ⟨a, ha, _⟩ := Kd.at_int h3 0 (by omega) (by omega)
    rw [hlen] at h3
    refine ⟨a, (E j).c, ?_, by omega, ?_, hB⟩
    · unfold Ent.v
      rw [ha, h1, hlen]
    · rw [hnow, ← ha]
      exact h3
  · have hnow : nowD D (n : Int) = D.safe[n] := by
      unfold nowD
      rw [lastW_none D.waits n (fun j hj => by rw [← ((hE j).2 hj).choose_spec.1]; exact hno j hj)]
      simp [hn]
    refine ⟨⟨sb, n * 256, none⟩, 256, rfl, Nat.le_refl _, ?_, hB⟩
    rw [hnow]
    exact safe_C (h.below hB) n hn
def readD (D : Dk) : Dk := { D with reads := wrap64 (D.reads + 1) }
theorem cnt_ok {D D' : Dk} (h : Ok D) (h1 : D'.safe = D.safe) (h2 : D'.waits = D.waits) (h3 : D'.left = D.left) : Ok D' := ⟨by rw [h1]; exact h.few, by rw [h1]; exact h.len, by rw [h1]; exact h.byte, by rw [h1, h2]; exact h.at_, by rw [h3]; exact h.left⟩
theorem lastW_mem : ∀ (ws : List (Int × List Int)) (n : Int) (b : List Int), lastW ws n = some b → ∃ p ∈ ws, p.1 = n ∧ p.2 = b
  | p :: ws, n, b, h => by
    unfold lastW at h
    split at h
    · rename_i c hc
      obtain ⟨q, h1, h2⟩ := lastW_mem ws n c hc
      cases h
      exact ⟨q, List.mem_cons_of_mem _ h1, h2⟩
    · split at h
      · rename_i h1
        cases h
        exact ⟨p, List.mem_cons_self, h1, rfl⟩
      · cases h
theorem now_len {D : Dk} (h : Ok D) (n : Int) (hn : 0 ≤ n ∧ n < D.safe.length) : (nowD D n).length = 256 ∧ ∀ x ∈ nowD D n, 0 ≤ x ∧ x ≤ 255 := by
  unfold nowD
  cases hl : lastW D.waits n with
  | some b =>
    obtain ⟨p, h1, h2, rfl⟩ := lastW_mem _ _ _ hl
    exact (h.at_ p h1).2.2
  | none =>
    have hlt : n.toNat < D.safe.length := by omega
    have e : (none : Option (List Int)).getD (D.safe.getD n.toNat []) = D.safe[n.toNat] := by simp [hlt]
    rw [e]
    exact ⟨h.len _ (List.getElem_mem hlt), h.byte _ (List.getElem_mem hlt)⟩
set_option maxHeartbeats 8000000 in
set_option maxRecDepth 100000 in
theorem read_no {w : World} {base db sb : Nat} {D : Dk} (h : PD w base db sb D) (N : Int) (hr : ready D N ≠ 0) :
    Calls Try.prog 39 #[.pointer (some ⟨db, 0, none⟩), .int .i64 N] w fun e w' => e = .returned (.tuple #[.slice none 0 0, .int .i64 (ready D N)]) ∧ w' = w := by
  obtain ⟨r, hrr⟩ : ∃ r, r = ready D N := ⟨_, rfl⟩
  rw [← hrr] at hr ⊢
  have HR := Aside0.mk hrr
  clear hrr
  have hb : (r != 0) = true := by simpa using hr
  go_enter Try.func39, Try.ntmps39
  go_wp2_with fail
  refine (ready_any N h).mono ?_
  rintro e w1 ⟨rfl, rfl⟩
  rw [← HR.out]
  go_wp2_with fail
  go_ret2
  exact ⟨rfl, rfl⟩
set_option maxHeartbeats 8000000 in
set_option maxRecDepth 100000 in
theorem read_yes {w : World} {base db sb : Nat} {D : Dk} (h : PD w base db sb D) (N : Int) (hr : ready D N = 0) (hfew : D.waits.length ≤ 1000000000) :
    Calls Try.prog 39 #[.pointer (some ⟨db, 0, none⟩), .int .i64 N] w fun e w' => ∃ v, e = .returned (.tuple #[v, .int .i64 0]) ∧ Kd.R (Kd.int .u8) 5 w' w.heap.size (fun _ => True) v (nowD D N) ∧ PD w' base db sb (readD D) ∧ FP base db sb w w' := by
  have hN : 0 ≤ N ∧ N < D.safe.length := by
    unfold ready at hr
    split at hr
    · omega
    · split at hr
      · omega
      · omega
  have HNL := Aside0.mk (now_len h.ok N hN)
  have HP := Aside0.mk h
  have HR := Aside0.mk hr
  obtain ⟨vw, cs, sp, hx⟩ := h
  have c4 : w.cell? ⟨db, 4, none⟩ = some (.int .i64 D.reads) := cell_blk hx.cells
  have f4 : w.frozen? ⟨db, 4, none⟩ = false := frozen_blk hx.cells
  have HX := Aside0.mk hx
  clear hx hr
  go_enter Try.func39, Try.ntmps39
  go_wp2_with fail
  refine (ready_any N HP.out).mono ?_
  rintro e w1 ⟨rfl, rfl⟩
  rw [HR.out]
  go_wp2_with fail
  refine (add_at _ db 4 D.reads 1 c4 f4).mono ?_
  rintro e w2 ⟨rfl, hw2⟩
  have hp2 : PD w2 base db sb (readD D) := ⟨vw, cs, sp, by rw [hw2]; exact HX.out.put 4 _ (D' := readD D) (cnt_ok HX.out.ok rfl rfl rfl) rfl rfl rfl⟩
  have hf2 : FP base db sb w1 w2 := by rw [hw2]; exact .set _ _ _ _ (.inl rfl)
  have HP2 := Aside0.mk hp2
  have HF2 := Aside0.mk hf2
  have hs2 : w1.heap.size ≤ w2.heap.size := hf2.size
  clear hw2 hp2 hf2 c4 f4
  go_wp2_with fail
  refine (now_any HP2.out N hN hfew).mono ?_
  rintro e w3 ⟨a, c, rfl, hc, hC, hB⟩
  have HC3 := Aside0.mk hC
  have HB3 := Aside0.mk hB
  have hs3 : w2.heap.size ≤ w3.heap.size := hB.size
  clear hC hB
  go_wp2_with fail
  have hnl := HNL.out.1
  have hC4 := HC3.out
  rw [show nowD (readD D) N = nowD D N from rfl, ← hnl] at hC4
  have hcl := clone8 (w := w3) a c (nowD D N) hC4 (by omega)
  rw [hnl] at hcl
  refine hcl.mono ?_
  rintro e w4 ⟨v, rfl, hr4, _, hb4⟩
  have HR4 := Aside0.mk hr4
  have HB4 := Aside0.mk hb4
  clear hr4 hb4 hC4 hcl
  go_wp2_with fail
  go_ret2
  have hbb := HB3.out.trans (HB4.out.mono HB3.out.size)
  exact ⟨_, rfl, Kd.R_lower HR4.out (by omega), HP2.out.below hbb, HF2.out.trans (.of_below hbb)⟩
end Disk
end Go.Proofs.Ytopfjmeejpamjaa
end
section
namespace Go.Proofs.Ytopfjmeejpamjaa
set_option linter.unusedVariables false
set_option linter.unusedSimpArgs false
open Go.RowKit Go.Proofs.YtopfjmeejpamjaaW.PrintWords Go.Proofs.YtopfjmeejpamjaaW.PrintLast Go.Proofs.YtopfjmeejpamjaaW.PrintMore
namespace Disk
open Go.Disk PDiskDoes PSuper
theorem infoW : (Try.prog.info? 94).map (fun i => (i.zero, i.size, i.bytes)) = some (some (.agg #[.int .i64 0, .slice none 0 0]), 2, 32) := by kernel_rfl
def waitD (D : Dk) (n : Int) (b : List Int) : Dk := { D with waits := D.waits ++ [(n, b)] }
theorem wait_ok {D : Dk} (h : Ok D) (n : Int) (b : List Int) (hn : 0 ≤ n ∧ n < D.safe.length) (hl : b.length = 256) (hb : ∀ x ∈ b, 0 ≤ x ∧ x ≤ 255) : Ok (waitD D n b) :=
  ⟨h.few, h.len, h.byte, fun p hp => by
    rcases List.mem_append.1 hp with h1 | h1
    · exact h.at_ p h1
    · simp at h1
      subst h1
      exact ⟨hn.1, hn.2, hl, hb⟩, h.left⟩
def writeD (D : Dk) (n : Int) (b : List Int) : Dk × Int :=
  if ready D n ≠ 0 then (D, ready D n) else if b.length ≠ 256 then (D, 11) else if D.left = 0 then (deedD (waitD D n b), 9) else ({ deedD (waitD D n b) with writes := wrap64 (D.writes + 1) }, 0)
set_option maxHeartbeats 8000000 in
set_option maxRecDepth 100000 in
theorem write_yes {w : World} {base db sb : Nat} {D : Dk} (h : PD w base db sb D) (N : Int) (hr : ready D N = 0) (a : Addr) (c : Nat) (bs : List Int) (hl : bs.length = 256) (hby : ∀ x ∈ bs, 0 ≤ x ∧ x ≤ 255) (hC : ∀ x, Below w.heap.size w x → Kd.C (Kd.int .u8) x (some a) bs.length bs) (hfew : D.waits.length ≤ 1000000) :
    Calls Try.prog 40 #[.pointer (some ⟨db, 0, none⟩), .int .i64 N, .slice (some a) bs.length c] w fun e w' => e = .returned (.int .i64 (writeD D N bs).2) ∧ PD w' base db sb (writeD D N bs).1 ∧ FP base db sb w w' := by
  have hN : 0 ≤ N ∧ N < D.safe.length := by
    unfold ready at hr
    split at hr
    · omega
    · split at hr
      · omega
      · omega
  have HP := Aside0.mk h
  have HR := Aside0.mk hr
  have HC := Aside0.mk hC
  have HBY := Aside0.mk hby
  obtain ⟨vw, cs, sp, hx⟩ := h
  obtain ⟨AW, cW, rfl⟩ := Kd.R_slice hx.waits
  have HX := Aside0.mk hx
  have hdl : db < w.heap.size := blk_lt hx.cells
  clear hx hr hC hby
  rw [hl]
  go_enter Try.func40, Try.ntmps40
  go_wp2_with fail
  refine (ready_any N HP.out).mono ?_
  rintro e w1 ⟨rfl, rfl⟩
  rw [HR.out]
  go_wp2_with fail
  have hm1 : ∀ m : Go.Reg.In (Below w1.heap.size w1), m.w.cell? ⟨db, 1, none⟩ = some (.slice AW D.waits.length cW) := fun m => by rw [m.h.cell hdl]; exact cell_blk HX.out.cells
  refine Go.Reg.region (Below w1.heap.size w1) [.p, .s, .s, .s, .s, .s, .s, .w, .s, .w, .x, .p, .p, .x] (by kernel_rfl) (by kernel_rfl) (below_drew1 (Below.refl _ _)) (fun ne => ?_)
  refine Go.Reg.lex_qp 1 _ _ _ _ _ (by rfl) ?_; simp only [List.take_succ_cons, List.take_zero, List.drop_succ_cons, List.drop_zero]; (repeat (go_big_quiet_step (rfl))); refine wpQuiet_nil ?_
  refine Go.Reg.lex_q 6 _ _ _ _ (by rfl) ?_; simp only [List.take_succ_cons, List.take_zero, List.drop_succ_cons, List.drop_zero]; (repeat (go_big_quiet_step (rfl))); refine wpQuiet_nil ?_
  refine Go.Reg.step_w (fun K hK => ?_)
  go_wp2_with fail
  have hcl := clone8 (w := w1.drew) a c bs (HC.out _ (below_drew1 (Below.refl _ _))) (by omega)
  rw [hl] at hcl
  refine hcl.mono ?_
  rintro e w2 ⟨vb, rfl, hrb, _, hb2⟩
  obtain ⟨AB, cB, rfl⟩ := Kd.R_slice hrb
  have HRB := Aside0.mk hrb
  have HB2 := Aside0.mk ((below_drew1 (Below.refl w1.heap.size w1)).trans hb2)
  rw [hl]
  clear hcl hrb hb2
  go_wp2_with fail
  refine hK.out _ _ HB2.out ?_
  clear hK K
  refine Go.Reg.lex_q 1 _ _ _ _ (by rfl) ?_; simp only [List.take_succ_cons, List.take_zero, List.drop_succ_cons, List.drop_zero]; (repeat (go_big_quiet_step (rfl))); refine wpQuiet_nil ?_
  refine Go.Reg.step_w (fun K hK => ?_)
  go_wp2_with fail
  refine hK.out _ _ (HB2.out.alloc HB2.out.size _) ?_
  clear hK K
  refine Go.Reg.step_x (by rfl) (fun K hK => ?_)
  have hs2 : w1.heap.size ≤ w2.heap.size := HB2.out.size
  have hsl : sb < w1.heap.size := blk_lt HX.out.safe
  have hdb := HX.out.dbase
  have HOW := Aside0.mk (Kd.R_lt HX.out.waits)
  have HX2 := Aside0.mk (HX.out.below HB2.out)
  refine Kd.R_append kW (w0 := w2) (W := w2) 0 rfl (.tmp 22) (.tmp 27) 82 94 (.agg #[.int .i64 0, .slice none 0 0]) 32 rfl Try.underlying82 infoW rfl (by decide) (by omega) (.slice AW D.waits.length cW) D.waits (N, bs) [.int .i64 N, .slice AB 256 cB] (fun k => k ≠ sb) (fun k => w1.heap.size ≤ k) rfl rfl ?aP ?aK ?aF ?aO (Below.refl _ _) ?aB ?aL ?_
  case aP => exact ⟨[.int .i64 N], [.slice AB 256 cB], rfl, rfl, _, rfl, by
    have h1 := HRB.out
    rw [hl] at h1
    exact Kd.R_mono (Kd.R_lower (Kd.R_bound h1) (Nat.zero_le _)) (fun k hk => hk.2.1)⟩
  case aK => exact fun k hk => ⟨by omega, fun e => by have := HOW.out k e.symm; omega⟩
  case aF => exact fun k hk => by omega
  case aO => exact HX2.out.waits
  case aB => omega
  case aL => omega
  intro v3 w3 ho3 _ hg3 hat3
  have HWO := Aside0.mk (show ∀ k, v3.ownBlock = some k → base ≤ k from fun k hk => by
    rcases hat3 with h | ⟨b, h1, h2⟩
    · exact HX.out.wown k (h ▸ hk)
    · rw [h1] at hk; cases hk; have := HX.out.dbase; omega)
  obtain ⟨A3, c3, rfl⟩ := Kd.R_slice ho3
  have hlen1 : (D.waits ++ [(N, bs)]).length = D.waits.length + 1 := by simp
  rw [hlen1] at ho3 HWO
  rw [hlen1]
  clear hlen1
  have HO3 := Aside0.mk ho3
  have hned : some db ≠ (Value.slice AW D.waits.length cW).ownBlock := Kd.R_ne HX2.out.waits HX2.out.cells (by decide)
  have hnes : some sb ≠ (Value.slice AW D.waits.length cW).ownBlock := fun e => (HX2.out.waits.1 sb e.symm) rfl
  have k3 := (hg3.block db (by omega) hned).trans HX2.out.cells
  have ks3 := (hg3.block sb (by omega) hnes).trans HX2.out.safe
  have HK3 := Aside0.mk k3
  have HS3 := Aside0.mk ks3
  have d1 : w3.cell? ⟨db, 1, none⟩ = some (.slice AW D.waits.length cW) := cell_blk k3
  have g1 : w3.frozen? ⟨db, 1, none⟩ = false := frozen_blk k3
  have HF3 := Aside0.mk (show FP base db sb w1 w3 from (Fr.of_below HB2.out).trans ⟨hg3.os, hg3.tape, hg3.output, hg3.size, fun k hk hne ht => hg3.block k hk (fun e => by
    obtain ⟨cells, hcells⟩ := own_typed (Kd.R_own HX2.out.waits).choose_spec k e.symm
    exact ht _ _ _ hcells ⟨HX2.out.wown k e.symm, rfl⟩)⟩)
  clear ho3 hg3 hat3 k3 ks3 hned hnes
  refine hK.out _ _ ?_
  clear hK K
  simp only [Act.put, List.setIfInBounds_toArray, List.set_cons_succ, List.set_cons_zero]
  refine Go.Reg.lex_qp 2 _ _ _ _ _ (by rfl) ?_; simp only [List.take_succ_cons, List.take_zero, List.drop_succ_cons, List.drop_zero]; (repeat (go_big_quiet_step (rfl))); refine wpQuiet_nil ?_
  refine Go.Reg.step_x (by rfl) (fun K hK => ?_)
  go_wp2_with fail
  refine hK.out _ _ ?_
  clear hK K
  refine Go.Reg.lex_nil ?_
  have hset := blk_set HK3.out 1 (.slice A3 (D.waits.length + 1) c3)
  obtain ⟨w4, hw4⟩ : ∃ w4, w4 = w3.setCell ⟨db, 1, none⟩ (.slice A3 (D.waits.length + 1) c3) := ⟨_, rfl⟩
  have hp4 : PD w4 base db sb (waitD D N bs) := by
    refine ⟨.slice A3 (D.waits.length + 1) c3, cs, sp, wait_ok HX.out.ok N bs hN hl HBY.out, HX.out.dbase, HX.out.sbase, HWO.out, ?_, ?_, ?_, HX.out.room⟩
    · rw [hw4, hset]; rfl
    · rw [hw4]; exact Kd.R_set HO3.out HK3.out (by decide) 1 _
    · rw [hw4, Below.heap_setCell _ _ _ _ (Ne.symm HX.out.ne)]; exact HS3.out
  have hf4 : FP base db sb w1 w4 := by rw [hw4]; exact HF3.out.trans (.set _ _ _ _ (.inl rfl))
  try rw [← hw4]
  have HP4 := Aside0.mk hp4
  have HF4 := Aside0.mk hf4
  clear hw4 hset hp4 hf4 d1 g1
  go_wp2_with fail
  refine (deed_any HP4.out).mono ?_
  rintro e w5 ⟨rfl, hp5, hf5⟩
  have HP5 := Aside0.mk hp5
  have HF5 := Aside0.mk (HF4.out.trans hf5)
  clear hp5 hf5
  have hwd : writeD D N bs = if D.left = 0 then (deedD (waitD D N bs), 9) else ({ deedD (waitD D N bs) with writes := wrap64 (D.writes + 1) }, 0) := by
    unfold writeD
    rw [HR.out, if_neg (by simp), if_neg (by rw [hl]; simp)]
  have HWD := Aside0.mk hwd
  clear hwd
  by_cases hz : D.left = 0
  · rw [show (waitD D N bs).left = D.left from rfl, if_pos hz]
    go_wp2_with fail
    go_ret
    rw [HWD.out, if_pos hz]
    exact ⟨rfl, HP5.out, HF5.out⟩
  · rw [show (waitD D N bs).left = D.left from rfl, if_neg hz]
    obtain ⟨vw5, cs5, sp5, hx5⟩ := HP5.out
    have hwr : (deedD (waitD D N bs)).writes = D.writes := by unfold deedD; rw [show (waitD D N bs).left = D.left from rfl, if_neg hz]; rfl
    have c5 : w5.cell? ⟨db, 5, none⟩ = some (.int .i64 D.writes) := by rw [← hwr]; exact cell_blk hx5.cells
    have f5 : w5.frozen? ⟨db, 5, none⟩ = false := frozen_blk hx5.cells
    have HX5 := Aside0.mk hx5
    have HWR := Aside0.mk hwr
    clear hx5 hwr
    go_wp2_with fail
    refine (add_at _ db 5 D.writes 1 c5 f5).mono ?_
    rintro e w6 ⟨rfl, hw6⟩
    have hp6 : PD w6 base db sb { deedD (waitD D N bs) with writes := wrap64 (D.writes + 1) } := ⟨vw5, cs5, sp5, by rw [hw6]; exact HX5.out.put 5 _ (cnt_ok HX5.out.ok rfl rfl rfl) rfl rfl rfl⟩
    have hf6 : FP base db sb w1 w6 := by rw [hw6]; exact HF5.out.trans (.set _ _ _ _ (.inl rfl))
    clear hw6
    go_wp2_with fail
    go_ret
    rw [HWD.out, if_neg hz]
    exact ⟨rfl, hp6, hf6⟩
end Disk
end Go.Proofs.Ytopfjmeejpamjaa
namespace Go.Proofs.Ytopfjmeejpamjaa
set_option linter.unusedVariables false
set_option linter.unusedSimpArgs false
open Go.RowKit Go.Proofs.YtopfjmeejpamjaaW.PrintWords Go.Proofs.YtopfjmeejpamjaaW.PrintLast Go.Proofs.YtopfjmeejpamjaaW.PrintMore
namespace Disk
open Go.Disk PDiskDoes PSuper
set_option maxHeartbeats 8000000 in
set_option maxRecDepth 100000 in
theorem write_no {w : World} {base db sb : Nat} {D : Dk} (h : PD w base db sb D) (N : Int) (hr : ready D N ≠ 0) (A : Option Addr) (l c : Nat) :
    Calls Try.prog 40 #[.pointer (some ⟨db, 0, none⟩), .int .i64 N, .slice A l c] w fun e w' => e = .returned (.int .i64 (ready D N)) ∧ w' = w := by
  obtain ⟨r, hrr⟩ : ∃ r, r = ready D N := ⟨_, rfl⟩
  rw [← hrr] at hr ⊢
  have HR := Aside0.mk hrr
  clear hrr
  have hb : (r != 0) = true := by simpa using hr
  go_enter Try.func40, Try.ntmps40
  go_wp2_with fail
  refine (ready_any N h).mono ?_
  rintro e w1 ⟨rfl, rfl⟩
  rw [← HR.out]
  go_wp2_with fail
  go_ret
  exact ⟨rfl, rfl⟩
set_option maxHeartbeats 8000000 in
set_option maxRecDepth 100000 in
theorem write_size {w : World} {base db sb : Nat} {D : Dk} (h : PD w base db sb D) (N : Int) (hr : ready D N = 0) (A : Option Addr) (l c : Nat) (hl : l ≠ 256) :
    Calls Try.prog 40 #[.pointer (some ⟨db, 0, none⟩), .int .i64 N, .slice A l c] w fun e w' => e = .returned (.int .i64 11) ∧ w' = w := by
  have HR := Aside0.mk hr
  have hb : ((l : Int) != 256) = true := by simp; omega
  clear hr
  go_enter Try.func40, Try.ntmps40
  go_wp2_with fail
  refine (ready_any N h).mono ?_
  rintro e w1 ⟨rfl, rfl⟩
  rw [HR.out]
  go_wp2_with fail
  go_ret
  exact ⟨rfl, rfl⟩
set_option maxHeartbeats 8000000 in
set_option maxRecDepth 100000 in
theorem flush_no {w : World} {base db sb : Nat} {D : Dk} (h : PD w base db sb D) (hr : ready D 0 ≠ 0) :
    Calls Try.prog 46 #[.pointer (some ⟨db, 0, none⟩)] w fun e w' => e = .returned (.int .i64 (ready D 0)) ∧ w' = w := by
  obtain ⟨r, hrr⟩ : ∃ r, r = ready D 0 := ⟨_, rfl⟩
  rw [← hrr] at hr ⊢
  have HR := Aside0.mk hrr
  clear hrr
  have hb : (r != 0) = true := by simpa using hr
  go_enter Try.func46, Try.ntmps46
  go_wp2_with fail
  refine (ready_any 0 h).mono ?_
  rintro e w1 ⟨rfl, rfl⟩
  rw [← HR.out]
  go_wp2_with fail
  go_ret
  exact ⟨rfl, rfl⟩
set_option maxHeartbeats 8000000 in
set_option maxRecDepth 100000 in
theorem flush_stop {w : World} {base db sb : Nat} {D : Dk} (h : PD w base db sb D) (hr : ready D 0 = 0) (hl : D.left = 0) :
    Calls Try.prog 46 #[.pointer (some ⟨db, 0, none⟩)] w fun e w' => e = .returned (.int .i64 9) ∧ PD w' base db sb (deedD D) ∧ FP base db sb w w' := by
  have HR := Aside0.mk hr
  have HL := Aside0.mk hl
  have HP := Aside0.mk h
  clear hr hl h
  go_enter Try.func46, Try.ntmps46
  go_wp2_with fail
  refine (ready_any 0 HP.out).mono ?_
  rintro e w1 ⟨rfl, rfl⟩
  rw [HR.out]
  go_wp2_with fail
  refine (deed_any HP.out).mono ?_
  rintro e w2 ⟨rfl, hp2, hf2⟩
  rw [if_pos HL.out]
  go_wp2_with fail
  go_ret
  exact ⟨rfl, hp2, hf2⟩
end Disk
end Go.Proofs.Ytopfjmeejpamjaa
namespace Go.Proofs.Ytopfjmeejpamjaa
set_option linter.unusedVariables false
set_option linter.unusedSimpArgs false
open Go.RowKit Go.Proofs.YtopfjmeejpamjaaW.PrintWords Go.Proofs.YtopfjmeejpamjaaW.PrintLast Go.Proofs.YtopfjmeejpamjaaW.PrintMore
namespace Disk
open Go.Disk PDiskDoes PSuper
def fillTo (f : Nat → Int) (n i : Nat) : List Int := (List.range n).map fun j => if j < i then f j else 0
theorem fill_len (f : Nat → Int) (n i : Nat) : (fillTo f n i).length = n := by simp [fillTo]
theorem fill_zero (f : Nat → Int) (n : Nat) : fillTo f n 0 = List.replicate n 0 := by
  apply List.ext_getElem
  · rw [fill_len, List.length_replicate]
  · intro i h1 h2
    simp [fillTo]
theorem fill_set (f : Nat → Int) (n i : Nat) : (fillTo f n i).set i (f i) = fillTo f n (i + 1) := by
  apply List.ext_getElem
  · rw [List.length_set, fill_len, fill_len]
  · intro j h1 h2
    rw [List.getElem_set]
    simp only [fillTo, List.getElem_map, List.getElem_range]
    by_cases hj : i = j
    · subst hj; simp
    · rw [if_neg hj]
      by_cases hl : j < i
      · rw [if_pos hl, if_pos (by omega)]
      · rw [if_neg hl, if_neg (by omega)]
def rep8 (bs : List Int) (j : Nat) : Int := bs.getD (j % bs.length) 0
def blockOf (bs : List Int) : List Int := if bs.length = 0 then List.replicate 256 0 else fillTo (rep8 bs) 256 256
theorem block_len (bs : List Int) : (blockOf bs).length = 256 := by
  unfold blockOf
  split
  · exact List.length_replicate
  · exact fill_len _ _ _
theorem wrap_id (z : Int) (h0 : -9223372036854775808 ≤ z) (h1 : z ≤ 9223372036854775807) : wrap64 z = z := by
  first | (unfold wrap64; omega) | (simp [wrap64]; omega)
theorem block_l (bs : List Int) (hb : bs.length ≠ 0) : ∀ (k i : Nat), 256 < i + k → i ≤ 256 → chantrylaw06_Block.l0 k bs (fillTo (rep8 bs) 256 i) i = some (fillTo (rep8 bs) 256 256)
  | 0, i, h, _ => by omega
  | k + 1, i, h, hi => by
    simp only [chantrylaw06_Block.l0]
    by_cases hlt : i < 256
    · have hm : Int.tmod (i : Int) (bs.length : Int) = ((i % bs.length : Nat) : Int) := by rw [Int.tmod_eq_emod_of_nonneg (by omega)]; rfl
      have hmlt : i % bs.length < bs.length := Nat.mod_lt _ (by omega)
      rw [if_pos (by omega), if_pos (by omega), if_neg (by omega), hm, if_pos (by omega), if_pos (by omega), if_pos (by omega), fill_len, if_pos (by omega), Int.toNat_natCast]
      have hr : rd bs ((i % bs.length : Nat) : Int) = rep8 bs i := by unfold rd rep8; rw [Int.toNat_natCast]
      rw [hr, fill_set, wrap_id _ (by omega) (by omega)]
      exact block_l bs hb k (i + 1) (by omega) (by omega)
    · have : i = 256 := by omega
      subst this
      rw [if_neg (by omega)]
theorem block_nil (bs : List Int) (hb : bs.length = 0) (k : Nat) (acc : List Int) : chantrylaw06_Block.l0 (k + 1) bs acc 0 = some acc := by
  simp only [chantrylaw06_Block.l0]
  rw [if_pos (by omega), if_neg (by omega)]
theorem block_plain (bs : List Int) : chantrylaw06_Block.f 300 bs = some (blockOf bs) := by
  unfold chantrylaw06_Block.f blockOf
  rw [if_pos (by omega)]
  by_cases hb : bs.length = 0
  · rw [if_pos hb]
    exact block_nil bs hb 299 _
  · rw [if_neg hb, ← fill_zero (rep8 bs) 256]
    exact block_l bs hb 300 0 (by omega) (by omega)
theorem Block_any {w : World} (A : Option Addr) (c : Nat) (bs : List Int) (hC : Kd.C (Kd.int .u8) w A bs.length bs) (hc : bs.length ≤ c) :
    Calls Try.prog 41 #[.slice A bs.length c] w fun e w' => ∃ a c', e = .returned (.slice (some a) 256 c') ∧ 256 ≤ c' ∧ Kd.R (Kd.int .u8) 5 w' w.heap.size (fun _ => True) (.slice (some a) 256 c') (blockOf bs) ∧ Below w.heap.size w w' := by
  refine (chantrylaw06_Block.calls 300 A c bs (blockOf bs) w hC hc (block_plain bs)).mono ?_
  rintro e w' ⟨v, rfl, hr, hb⟩
  obtain ⟨A', c', rfl⟩ := Kd.R_slice hr
  have hl := block_len bs
  obtain ⟨a, ha, _⟩ := Kd.at_int (Kd.R_reads' hr).2.2 0 (by omega) (by omega)
  subst ha
  have hc' := (Kd.R_reads' hr).2.1
  rw [hl] at hr hc' ⊢
  exact ⟨a, c', rfl, hc', hr, hb⟩
end Disk
end Go.Proofs.Ytopfjmeejpamjaa
namespace Go.Proofs.Ytopfjmeejpamjaa
set_option linter.unusedVariables false
set_option linter.unusedSimpArgs false
open Go.RowKit Go.Proofs.YtopfjmeejpamjaaW.PrintWords Go.Proofs.YtopfjmeejpamjaaW.PrintLast Go.Proofs.YtopfjmeejpamjaaW.PrintMore
namespace Disk
open Go.Disk PDiskDoes PSuper
theorem put_block {w : World} {base db sb cs : Nat} {D : Dk} {vw : Value} {sp : List Value} (h : PDx w base db sb D vw cs sp) (n : Nat) (hn : n < D.safe.length) (a : Addr) (c : Nat) (bs : List Int) (hl : bs.length = 256) (hby : ∀ x ∈ bs, 0 ≤ x ∧ x ≤ 255) (hC : Kd.C (Kd.int .u8) w (some a) bs.length bs) :
    ∃ w', (Builtin.copy_ #[26, 26] 3 #[.slice (some ⟨sb, n * 256, none⟩) 256 256, .slice (some a) 256 c]).run Try.prog w = .ok (.int .i64 256) w' ∧ PDx w' base db sb { D with safe := D.safe.set n bs } vw cs sp ∧ Fr (fun k => k = sb) (fun _ _ => False) w w' := by
  have hfl := flatLen h.ok
  obtain ⟨w', h1, h2, h3⟩ := copy_in (w := w) (g := sb) (o := n * 256) (dl := 256) (dc := 256) (sl := 256) (sc := c) a D.safe.flatten bs sp h.safe (by omega) (by rw [hl]; rfl) (fun j hj => by
    obtain ⟨ad, e, hcell⟩ := Kd.at_int hC (j : Int) (by omega) (by omega)
    cases e
    rw [Int.toNat_natCast] at hcell
    rw [hcell]
    unfold rd
    rw [Int.toNat_natCast])
  have hlb := lay_block h.ok.len n hn D.safe[n] bs (h.ok.len _ (List.getElem_mem hn)) 0 (by omega)
  have hself : lay D.safe[n] 0 bs = bs := by
    unfold lay
    rw [List.take_zero, List.nil_append, List.drop_eq_nil_of_le (by rw [h.ok.len _ (List.getElem_mem hn)]; omega), List.append_nil]
  rw [hself, List.set_getElem_self, Nat.add_zero] at hlb
  rw [hlb] at h2
  rw [hl] at h1
  have hok := ok_set h.ok n bs hl hby
  have hfl2 : (D.safe.set n bs).flatten.length = D.safe.flatten.length := by
    rw [flat_len hok.len, hfl, List.length_set]
  refine ⟨w', h1, ⟨hok, h.dbase, h.sbase, h.wown, ?_, ?_, h2, ?_⟩, h3⟩
  · show w'.heap[db]? = some (.cells #[.slice (some ⟨sb, 0, none⟩) (D.safe.set n bs).flatten.length cs, _, _, _, _, _, _] _ _)
    rw [hfl2]
    exact (h3.block db (blk_lt h.cells) h.ne (fun _ _ _ _ h => h)).trans h.cells
  · exact Kd.R_step h.waits (fun j hj hlt => h3.block j hlt hj (fun _ _ _ _ h => h))
  · show (D.safe.set n bs).flatten.length + sp.length = cs
    rw [hfl2]
    exact h.room
def flushTo : List (List Int) → List (Int × List Int) → List (List Int)
  | s, p :: ws => flushTo (s.set p.1.toNat p.2) ws
  | s, [] => s
theorem flushTo_len : ∀ (ws : List (Int × List Int)) (s : List (List Int)), (flushTo s ws).length = s.length
  | [], s => rfl
  | p :: ws, s => by
    show (flushTo (s.set p.1.toNat p.2) ws).length = _
    rw [flushTo_len ws, List.length_set]
theorem flushTo_snoc : ∀ (ws : List (Int × List Int)) (s : List (List Int)) (p : Int × List Int), flushTo s (ws ++ [p]) = (flushTo s ws).set p.1.toNat p.2
  | [], s, p => rfl
  | q :: ws, s, p => flushTo_snoc ws _ p
def safeTo (D : Dk) (i : Nat) : Dk := { D with safe := flushTo D.safe (D.waits.take i) }
theorem safeTo_next (D : Dk) (i : Nat) (hi : i < D.waits.length) : safeTo D (i + 1) = { safeTo D i with safe := (safeTo D i).safe.set D.waits[i].1.toNat D.waits[i].2 } := by
  unfold safeTo
  rw [List.take_succ_eq_append_getElem hi, flushTo_snoc]
def flushD (D : Dk) : Dk := { safeTo D D.waits.length with waits := [], flushes := wrap64 (D.flushes + 1) }
theorem none_ok {D : Dk} (h : Ok D) : Ok { D with waits := [] } := ⟨h.few, h.len, h.byte, fun p hp => by simp at hp, h.left⟩
set_option maxHeartbeats 8000000 in
set_option maxRecDepth 100000 in
theorem flush_yes {w : World} {base db sb : Nat} {D : Dk} (h : PD w base db sb D) (hr : ready D 0 = 0) (hl : D.left ≠ 0) (hfew : D.waits.length ≤ 1000000) :
    Calls Try.prog 46 #[.pointer (some ⟨db, 0, none⟩)] w fun e w' => e = .returned (.int .i64 0) ∧ PD w' base db sb (flushD (deedD D)) ∧ FP base db sb w w' := by
  have HR := Aside0.mk hr
  have HL := Aside0.mk hl
  have HP := Aside0.mk h
  obtain ⟨E, hE⟩ : ∃ E, E = deedD D := ⟨_, rfl⟩
  have hwe : E.waits = D.waits := by rw [hE]; unfold deedD; rw [if_neg hl]
  rw [← hE]
  rw [← hwe] at hfew
  have HE := Aside0.mk hE
  clear hr hl h hE hwe
  go_enter Try.func46, Try.ntmps46
  go_wp2_with fail
  refine (ready_any 0 HP.out).mono ?_
  rintro e w1 ⟨rfl, rfl⟩
  rw [HR.out]
  go_wp2_with fail
  refine (deed_any HP.out).mono ?_
  rintro e w2 ⟨rfl, hp2, hf2⟩
  rw [if_neg HL.out]
  rw [← HE.out] at hp2
  obtain ⟨vw, cs, sp, hx⟩ := hp2
  have HX := Aside0.mk hx
  have HF2 := Aside0.mk hf2
  obtain ⟨AW, cW, rfl, hcW, _⟩ := Kd.R_reads hx.waits
  have c1 : w2.cell? ⟨db, 1, none⟩ = some (.slice AW E.waits.length cW) := cell_blk hx.cells
  clear hf2 hx
  go_wp2_with fail
  have HXS := Aside0.mk (show PDx w2 base db sb (safeTo E 0) (.slice AW E.waits.length cW) cs sp from HX.out)
  have HFS := Aside0.mk (Fr.refl (fun k => k = sb) (fun _ _ => False) w2)
  go_loopg [22, 6] E.waits.length (fun g v22 v6 wr => ∃ (i : Nat), Aside0 (i + g = E.waits.length) ∧ v22 = .int .i64 i ∧ Aside0 (PDx wr base db sb (safeTo E i) (.slice AW E.waits.length cW) cs sp) ∧ Aside0 (Fr (fun k => k = sb) (fun _ _ => False) w2 wr))
  case atStart => exact ⟨0, ⟨by omega⟩, rfl, HXS, HFS⟩
  case round =>
    clear HXS HFS
    obtain ⟨i, HI, rfl, HXR, HF⟩ := hrel
    by_cases hi : i < E.waits.length
    · obtain ⟨g, cap, vb, hvw, hw0, hw1, hwr, hgs, hgl, _⟩ := W_at HXR.out.waits i hi
      cases hvw
      obtain ⟨ab, cb, hvb, hcb, _⟩ := Kd.R_reads hwr
      subst hvb
      have hat := HX.out.ok.at_ _ (List.getElem_mem hi)
      have HNX := Aside0.mk (safeTo_next E i hi)
      have e1 : (safeTo E i).waits[i]'hi = E.waits[i] := rfl
      rw [e1] at hw0 hw1 hwr hcb
      clear e1
      obtain ⟨N, hN⟩ : ∃ N, N = E.waits[i].1 := ⟨_, rfl⟩
      obtain ⟨bs, hbs⟩ : ∃ bs, bs = E.waits[i].2 := ⟨_, rfl⟩
      rw [← hN, ← hbs] at hat
      rw [← hN] at hw0
      rw [← hbs] at hw1 hwr hcb
      rw [← hN, ← hbs] at HNX
      clear hN hbs
      have HWR := Aside0.mk hwr
      have HAT := Aside0.mk hat
      clear hwr hat
      obtain ⟨aw, haw, _⟩ := Kd.at_int (Kd.R_reads' HWR.out).2.2 0 (by omega) (by have := HAT.out.2.2.1; omega)
      subst haw
      rw [HAT.out.2.2.1] at hw1
      go_wp2_with fail
      obtain ⟨V, hV⟩ : ∃ V, V = wr.alloc (.cells #[.int .i64 N, .slice (some aw) 256 cb] 94) := ⟨_, rfl⟩
      have hal : Below wr.heap.size wr V := by rw [hV]; exact (Below.refl _ _).alloc (Nat.le_refl _) _
      have hbx : V.heap[wr.heap.size]? = some (.cells #[.int .i64 N, .slice (some aw) 256 cb] 94 (0, 0)) := by rw [hV]; exact heap_alloc_new wr _
      rw [← hV]
      have HBX := Aside0.mk hbx
      have HAL := Aside0.mk hal
      have HXV := Aside0.mk (HXR.out.below (hal.trans (below_drew1 (Below.refl _ _))))
      clear hV hal hbx hw0 hw1
      obtain ⟨n, hn⟩ : ∃ n : Nat, N = n := ⟨N.toNat, by have := HAT.out.1; omega⟩
      subst hn
      have hnl : n < (safeTo E i).safe.length := by show n < (flushTo _ _).length; rw [flushTo_len]; have := HAT.out.2.1; omega
      have hfew2 := HXV.out.ok.few
      have hfl : (safeTo E i).safe.flatten.length = (safeTo E i).safe.length * 256 := flatLen HXV.out.ok
      have hroom : (safeTo E i).safe.length * 256 ≤ cs := by have := HXV.out.room; omega
      have hm0 : ∀ m : Go.Reg.In (fun x => x = V.drew), m.w.cell? ⟨db, 0, none⟩ = some (.slice (some ⟨sb, 0, none⟩) ((safeTo E i).safe.length * 256) cs) := fun m => by rw [m.h, ← hfl]; exact cell_blk HXV.out.cells
      have hm1 : ∀ m : Go.Reg.In (fun x => x = V.drew), m.w.cell? ⟨wr.heap.size, 0, none⟩ = some (.int .i64 n) := fun m => by rw [m.h]; exact cell_blk (w := V) HBX.out
      have hm2 : ∀ m : Go.Reg.In (fun x => x = V.drew), m.w.cell? ⟨wr.heap.size, 1, none⟩ = some (.slice (some aw) 256 cb) := fun m => by rw [m.h]; exact cell_blk (w := V) HBX.out
      obtain ⟨L, hL⟩ : ∃ L, L = (safeTo E i).safe.length := ⟨_, rfl⟩
      rw [← hL] at hm0 hfew2 hnl hroom
      have HLL := Aside0.mk hL
      clear hL hfl
      obtain ⟨w7, hcp, hx7, hf7⟩ := put_block HXV.out n (by rw [← HLL.out]; exact hnl) aw cb bs HAT.out.2.2.1 HAT.out.2.2.2 (Kd.R_reads' (Kd.R_below HWR.out (HAL.out.trans (below_drew1 (Below.refl _ _))))).2.2
      have HX7 := Aside0.mk hx7
      have HF7 := Aside0.mk (HF.out.trans ((Fr.of_below (HAL.out.trans (below_drew1 (Below.refl _ _)))).trans hf7))
      clear hx7 hf7
      refine Go.Reg.region (fun x => x = V.drew) [.s, .s, .s, .s, .s, .s, .w, .s, .s, .x] (by kernel_rfl) (by kernel_rfl) rfl (fun ne => ?_)
      refine Go.Reg.lex_q 6 _ _ _ _ (by rfl) ?_; simp only [List.take_succ_cons, List.take_zero, List.drop_succ_cons, List.drop_zero]; (repeat (go_big_quiet_step (rfl))); refine wpQuiet_nil ?_
      refine Go.Reg.step_w (fun K hK => ?_)
      go_wp2_with fail
      refine (block_at sb L cs n hnl (by omega) hroom).mono ?_
      rintro e w5 ⟨rfl, rfl⟩
      go_wp2_with fail
      refine hK.out _ _ rfl ?_
      clear hK K
      refine Go.Reg.lex_q 2 _ _ _ _ (by rfl) ?_; simp only [List.take_succ_cons, List.take_zero, List.drop_succ_cons, List.drop_zero]; (repeat (go_big_quiet_step (rfl))); refine wpQuiet_nil ?_
      refine Go.Reg.step_x (by rfl) (fun K hK => ?_)
      clear hm0 hm1 hm2
      go_wp2_with fail
      refine hK.out _ _ ?_
      clear hK K
      refine Go.Reg.lex_nil ?_
      clear hcp
      go_wp2_with fail
      go_roundg (gk - 1)
      case measure => have := HI.out; omega
      case rel => exact ⟨i + 1, ⟨by have := HI.out; omega⟩, by go_num, ⟨by rw [HNX.out]; exact HX7.out⟩, HF7⟩
    · have hin : i = E.waits.length := by have := HI.out; omega
      subst hin
      have c1' : wr.cell? ⟨db, 1, none⟩ = some (.slice AW E.waits.length cW) := cell_blk HXR.out.cells
      have f1' : wr.frozen? ⟨db, 1, none⟩ = false := frozen_blk HXR.out.cells
      go_wp2_with fail
      have hx := HXR.out
      have hb1 := blk_set hx.cells 1 (.slice none 0 0)
      obtain ⟨w8, hw8⟩ : ∃ w8, w8 = wr.setCell ⟨db, 1, none⟩ (.slice none 0 0) := ⟨_, rfl⟩
      rw [← hw8] at hb1 ⊢
      have hx8 : PDx w8 base db sb { safeTo E E.waits.length with waits := [] } (.slice none 0 0) cs sp := by
        refine ⟨none_ok hx.ok, hx.dbase, hx.sbase, fun _ h => by simp [Value.ownBlock] at h, ?_, Kd.R_nil _ _ _ _ _, ?_, hx.room⟩
        · rw [hb1]; rfl
        · rw [hw8, Below.heap_setCell _ _ _ _ (Ne.symm hx.ne)]; exact hx.safe
      have HX8 := Aside0.mk hx8
      have HF8 := Aside0.mk (show FP base db sb w1 w8 by rw [hw8]; exact HF2.out.trans ((HF.out.mono (fun _ h => .inr h) (fun _ _ h => h.elim)).trans (Fr.set _ _ _ _ (.inl rfl))))
      clear hw8 hb1 hx8 hx c1' f1'
      have c6 : w8.cell? ⟨db, 6, none⟩ = some (.int .i64 E.flushes) := cell_blk HX8.out.cells
      have f6 : w8.frozen? ⟨db, 6, none⟩ = false := frozen_blk HX8.out.cells
      go_wp2_with fail
      refine (add_at _ db 6 E.flushes 1 c6 f6).mono ?_
      rintro e w9 ⟨rfl, hw9⟩
      have hp9 : PD w9 base db sb (flushD E) := ⟨.slice none 0 0, cs, sp, by rw [hw9]; exact HX8.out.put 6 _ (D' := flushD E) (cnt_ok HX8.out.ok rfl rfl rfl) rfl rfl rfl⟩
      have hf9 : FP base db sb w1 w9 := by rw [hw9]; exact HF8.out.trans (.set _ _ _ _ (.inl rfl))
      clear hw9
      go_wp2_with fail
      go_ret
      exact ⟨rfl, hp9, hf9⟩
end Disk
end Go.Proofs.Ytopfjmeejpamjaa
namespace Go.Proofs.Ytopfjmeejpamjaa
set_option linter.unusedVariables false
set_option linter.unusedSimpArgs false
open Go.RowKit Go.Proofs.YtopfjmeejpamjaaW.PrintWords Go.Proofs.YtopfjmeejpamjaaW.PrintLast Go.Proofs.YtopfjmeejpamjaaW.PrintMore
namespace Disk
open Go.Disk PDiskDoes PSuper
end Disk
end Go.Proofs.Ytopfjmeejpamjaa
namespace Go.Proofs.Ytopfjmeejpamjaa
set_option linter.unusedVariables false
set_option linter.unusedSimpArgs false
open Go.RowKit Go.Proofs.YtopfjmeejpamjaaW.PrintWords Go.Proofs.YtopfjmeejpamjaaW.PrintLast Go.Proofs.YtopfjmeejpamjaaW.PrintMore
namespace Disk
open Go.Disk PDiskDoes PSuper
def chunks (xs : List Int) (n : Nat) : List (List Int) := (List.range n).map (fun i : Nat => (xs.drop (i * 256)).take 256)
end Disk
end Go.Proofs.Ytopfjmeejpamjaa
end
section
namespace Go.Proofs.Ytopfjmeejpamjaa
set_option linter.unusedVariables false
set_option linter.unusedSimpArgs false
open Go.RowKit Go.Proofs.YtopfjmeejpamjaaW.PrintWords Go.Proofs.YtopfjmeejpamjaaW.PrintLast Go.Proofs.YtopfjmeejpamjaaW.PrintMore
namespace Disk
open Go.Disk PDiskDoes PSuper
def a0 : Dk := blankD 16
def a1 : Dk := (writeD a0 3 (blockOf [7])).1
def a2 : Dk := crashD a1 [5]
def a3 : Dk := readD a2
def a4 : Dk := stopD a3 0
def a5 : Dk := deedD a4
theorem k0 : ready a0 3 = 0 := by kernel_rfl
theorem k1 : (writeD a0 3 (blockOf [7])).2 = 0 := by kernel_rfl
theorem k2 : ready a2 3 = 0 := by kernel_rfl
theorem k3 : a2.waits.length = 0 := by kernel_rfl
theorem k4 : ready a3 16 = 10 := by kernel_rfl
theorem k5 : ready a3 3 = 0 := by kernel_rfl
theorem n0 : rd (nowD a2 3) 0 = 7 := by kernel_rfl
theorem n1 : rd (nowD a2 3) 64 = 0 := by kernel_rfl
theorem n2 : rd (nowD a2 3) 128 = 7 := by kernel_rfl
theorem n3 : rd (nowD a2 3) 192 = 0 := by kernel_rfl
theorem FP.low {base db sb : Nat} {w w' : World} (f : FP base db sb w w') (hd : base ≤ db) (hs : base ≤ sb) (k : Nat) (hk : k < base) (hw : base ≤ w.heap.size) : w'.heap[k]? = w.heap[k]? :=
  f.block k (by omega) (by rintro (h | h) <;> omega) (fun _ _ _ _ h => by omega)
theorem FP.below {base db sb : Nat} {w w' : World} (f : FP base db sb w w') (hd : base ≤ db) (hs : base ≤ sb) (hw : base ≤ w.heap.size) : Below base w w' := ⟨f.os, f.tape, f.output, f.size, fun k hk => f.low hd hs k hk hw⟩
theorem row_at {w : World} {base : Nat} {ok : Nat → Prop} {A : Option Addr} {l c : Nat} {xs : List Int} (h : Kd.R (Kd.int .u8) 5 w base ok (.slice A l c) xs) : Kd.C (Kd.int .u8) w A xs.length xs := (Kd.R_reads' h).2.2
end Disk
end Go.Proofs.Ytopfjmeejpamjaa
namespace Go.Proofs.Ytopfjmeejpamjaa
set_option linter.unusedVariables false
set_option linter.unusedSimpArgs false
open Go.RowKit Go.Proofs.YtopfjmeejpamjaaW.PrintWords Go.Proofs.YtopfjmeejpamjaaW.PrintLast Go.Proofs.YtopfjmeejpamjaaW.PrintMore
namespace Disk
open Go.Disk PDiskDoes PSuper
def sec (k : Nat) (l : List Int) : List Int := (l.drop (64 * k)).take 64
end Disk
end Go.Proofs.Ytopfjmeejpamjaa
end
